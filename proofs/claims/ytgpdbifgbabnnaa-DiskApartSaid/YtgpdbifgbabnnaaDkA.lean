/- Package disk: a disk in memory ('Disk'), New, there, state, Used. Conditions: the disk's memory as 'Disk' says. -/
import Derived.Test.YtgpdbifgbabnnaaDkL
import Derived.Test.YtgpdbifgbabnnaaMapG
import Derived.Test.YtgpdbifgbabnnaaProg
import Derived.Maps.RangeWalk
import Derived.Deep.Quiet
namespace Go.Proofs.Ytgpdbifgbabnnaa
open Go.RowKit Go.Maps
set_option linter.unusedVariables false
set_option linter.unusedSimpArgs false

def klS (x : ByteArray) : Lit := .string x.data.toList
def okS (x : ByteArray) : Prop := x.size ≤ maxLen
def evF (y : ByteArray × Int) : Value := .agg #[.string y.1, .int .i64 y.2]
def decF : Value → Option (ByteArray × Int)
  | .agg cs => match cs.toList with | [.string a, .int .i64 n] => some (a, n) | _ => none
  | _ => none
theorem keyOf_S {P : Program} {k : TypeId} (hk : P.underlying k = some .string) {key : Value} {kl : Lit} (h : keyOf P k key = some kl) : ∃ x : ByteArray, key = .string x ∧ kl = klS x ∧ okS x := by
  cases key <;> simp [keyOf, hk, mapKey] at h
  obtain ⟨hs, rfl⟩ := h
  exact ⟨_, rfl, rfl, hs⟩
theorem klS_inj {x y : ByteArray} (h : klS x = klS y) : x = y := by
  unfold klS at h
  injection h with h
  exact toList_inj (by rw [ByteArray.toList_eq, ByteArray.toList_eq, h])
theorem klS_toList (x : ByteArray) : klS x = .string x.toList := by unfold klS; rw [ByteArray.toList_eq]
theorem filesT : MapT Try.prog 48 9 72 (fun x : ByteArray => .string x) klS okS evF decF (ByteArray.empty, 0) where
  ht := Try.underlying48
  K := string_keyed Try.underlying9
  hkey := fun x hx => by
    unfold okS at hx
    simp [keyOf, Try.underlying9, mapKey, klS, hx]
  inj := fun x y _ _ h => klS_inj h
  de := fun y => rfl
  ed := fun v y h => by
    unfold decF at h
    split at h
    · rename_i cs
      split at h
      · rename_i a n ha
        injection h with h
        subst h
        exact congrArg Value.agg (Array.toList_inj.1 ha)
      · cases h
    · cases h
  hz := fun w => by kernel_rfl

/-- What a map of files holds. -/
def flH (L : List Fl) (x : ByteArray) : Option (ByteArray × Int) := (getF L x).map (fun f => (f.b, f.s))
abbrev FilesM (w : World) (b : Nat) (L : List Fl) (cnt : Nat) : Prop := MapG Try.prog 9 klS okS decF w b (flH L) cnt
/-- The disk at block d: its map b. -/
def Disk (w : World) (d b : Nat) (s : DS) : Prop :=
  Blk w d [.map (some b), .int .i64 s.room, .int .i64 s.left, .bool s.off] ∧ FilesM w b s.L s.L.length ∧ b ≠ d
def DiskS (d b : Nat) (k : Nat) : Prop := k = d ∨ k = b

variable {w w' : World} {d b : Nat} {s : DS}
theorem Disk.c0 (h : Disk w d b s) : w.cell? ⟨d, 0, none⟩ = some (.map (some b)) := h.1.cell 0
theorem Disk.c1 (h : Disk w d b s) : w.cell? ⟨d, 1, none⟩ = some (.int .i64 s.room) := h.1.cell 1
theorem Disk.c2 (h : Disk w d b s) : w.cell? ⟨d, 2, none⟩ = some (.int .i64 s.left) := h.1.cell 2
theorem Disk.c3 (h : Disk w d b s) : w.cell? ⟨d, 3, none⟩ = some (.bool s.off) := h.1.cell 3
theorem Disk.pure (h : Disk w d b s) (hb : Below w.heap.size w w') : Disk w' d b s := ⟨h.1.pure hb, h.2.1.pure hb, h.2.2⟩
theorem Disk.upd {S : Nat → Prop} (h : Disk w d b s) (hu : Upd S w w') (h1 : ¬ S d) (h2 : ¬ S b) : Disk w' d b s := ⟨h.1.upd hu h1, h.2.1.upd hu h2, h.2.2⟩
theorem Disk.lt (h : Disk w d b s) : d < w.heap.size ∧ b < w.heap.size := ⟨h.1.lt, h.2.1.lt⟩
theorem Disk.ext {t : DS} (h : Disk w d b s) (e : s = t) : Disk w d b t := e ▸ h

theorem flH_set {L : List Fl} {f : Fl} (hr : Rises L) (x : ByteArray) : flH (setF L f) x = if x = f.n then some (f.b, f.s) else flH L x := by
  unfold flH
  rw [getF_setF x hr]
  by_cases h : x = f.n
  · rw [if_pos h, if_pos (by rw [h])]; rfl
  · rw [if_neg h, if_neg (fun e => h (toList_inj e.symm))]
theorem flH_del {L : List Fl} {y : ByteArray} (x : ByteArray) : flH (delF L y) x = if x = y then none else flH L x := by
  unfold flH
  rw [getF_delF]
  by_cases h : x = y
  · rw [if_pos h, if_pos (by rw [h])]; rfl
  · rw [if_neg h, if_neg (fun e => h (toList_inj e.symm))]

theorem new_any (w : World) (n : Int) :
    Calls Try.prog 8 #[.int .i64 n] w fun e w' => e = .returned (.pointer (some ⟨w.heap.size + 1, 0, none⟩)) ∧ Below w.heap.size w w' ∧
      Disk w' (w.heap.size + 1) w.heap.size ⟨[], maxI n 0, 0, false⟩ := by
  have hmm := @run_makeMap Try.prog
  have hb : ∀ l, Below w.heap.size w ((w.alloc (.map #[] 0)).alloc (.cells #[.map (some w.heap.size), .int .i64 l, .int .i64 0, .bool false] 50)) := fun l => ((Below.refl _ _).alloc (Nat.le_refl _) _).alloc (by simp) _
  have hd : ∀ l, maxI n 0 = l → Disk ((w.alloc (.map #[] 0)).alloc (.cells #[.map (some w.heap.size), .int .i64 l, .int .i64 0, .bool false] 50)) (w.heap.size + 1) w.heap.size ⟨[], maxI n 0, 0, false⟩ := fun l e => by
    subst e
    have e : (w.alloc (.map #[] 0)).heap.size = w.heap.size + 1 := by simp
    refine ⟨?_, (MapG.made w).alloc _, by omega⟩
    rw [← e]
    exact Blk.new _ [.map (some w.heap.size), .int .i64 (maxI n 0), .int .i64 0, .bool false] _
  have hb' := Lib.hid hb; clear hb
  have hd' := Lib.hid hd; clear hd
  by_cases hn : n < 0
  · go_enter Try.func8, Try.ntmps8
    go_wp2
    go_ret
    exact ⟨rfl, hb'.out _, hd'.out _ (by unfold maxI; rw [if_pos (by omega)])⟩
  · by_cases hn2 : 0 < n
    · go_enter Try.func8, Try.ntmps8
      go_wp2
      go_ret
      exact ⟨rfl, hb'.out _, hd'.out _ (by unfold maxI; rw [if_neg (by omega)])⟩
    · obtain rfl : n = 0 := by omega
      go_enter Try.func8, Try.ntmps8
      go_wp2
      go_ret
      exact ⟨rfl, hb'.out _, hd'.out _ (by unfold maxI; rw [if_pos (by omega)])⟩

theorem there_ok (w : World) (d b : Nat) (h0 : w.cell? ⟨d, 0, none⟩ = some (.map (some b))) :
    Calls Try.prog 40 #[.pointer (some ⟨d, 0, none⟩)] w fun e w' => e = .returned (.bool true) ∧ w = w' := by
  have qT := fun (w : World) (r : Option Nat) => run_neq_map_nil (P := Try.prog) (w := w) _ _ _ r Try.underlying48
  go_enter Try.func40, Try.ntmps40
  go_wp2
  go_ret
  exact ⟨rfl, rfl⟩
theorem there_empty (w : World) (d : Nat) (h0 : w.cell? ⟨d, 0, none⟩ = some (.map none)) :
    Calls Try.prog 40 #[.pointer (some ⟨d, 0, none⟩)] w fun e w' => e = .returned (.bool false) ∧ w = w' := by
  have qT := fun (w : World) (r : Option Nat) => run_neq_map_nil (P := Try.prog) (w := w) _ _ _ r Try.underlying48
  go_enter Try.func40, Try.ntmps40
  go_wp2
  go_ret
  exact ⟨rfl, rfl⟩
theorem there_nil (w : World) :
    Calls Try.prog 40 #[.pointer none] w fun e w' => e = .returned (.bool false) ∧ w = w' := by
  go_enter Try.func40, Try.ntmps40
  go_wp2
  go_ret
  exact ⟨rfl, rfl⟩

theorem state_ok (w : World) (d b : Nat) (o : Bool) (h0 : w.cell? ⟨d, 0, none⟩ = some (.map (some b))) (h3 : w.cell? ⟨d, 3, none⟩ = some (.bool o)) :
    Calls Try.prog 45 #[.pointer (some ⟨d, 0, none⟩)] w fun e w' => e = .returned (.int .i64 (if o then 100 else 0)) ∧ w = w' := by
  cases o
  · go_enter Try.func45, Try.ntmps45
    go_wp2_with (go_at_call 40; (with_reducible refine (there_ok _ d b h0).mono ?_); rintro e w1 ⟨rfl, rfl⟩)
    go_ret
    exact ⟨rfl, rfl⟩
  · go_enter Try.func45, Try.ntmps45
    go_wp2_with (go_at_call 40; (with_reducible refine (there_ok _ d b h0).mono ?_); rintro e w1 ⟨rfl, rfl⟩)
    go_ret
    exact ⟨rfl, rfl⟩
theorem down_ok (w : World) (d b : Nat) (o : Bool) (h0 : w.cell? ⟨d, 0, none⟩ = some (.map (some b))) (h3 : w.cell? ⟨d, 3, none⟩ = some (.bool o)) :
    Calls Try.prog 17 #[.pointer (some ⟨d, 0, none⟩)] w fun e w' => e = .returned (.bool o) ∧ w = w' := by
  go_enter Try.func17, Try.ntmps17
  go_wp2_with (go_at_call 40; (with_reducible refine (there_ok _ d b h0).mono ?_); rintro e w1 ⟨rfl, rfl⟩)
  go_ret
  exact ⟨rfl, rfl⟩

theorem mayN_ok {x : ByteArray} (h : MayN x) : okS x := by have := h.2.1; unfold okS maxLen; omega

/-! ### Used -/
/-- How many bytes the files have that have been met. -/
def metF (left : Lit → Bool) : List Fl → Int
  | [] => 0
  | f :: L => (if left (klS f.n) then 0 else (f.b.size : Int)) + metF left L
theorem metF_le (left : Lit → Bool) : ∀ L : List Fl, 0 ≤ metF left L ∧ metF left L ≤ usedF L
  | [] => by simp [metF, usedF_nil]
  | f :: L => by
    have := metF_le left L
    unfold metF
    rw [usedF_cons]
    split <;> omega
theorem metF_start {left : Lit → Bool} : ∀ {L : List Fl}, (∀ f ∈ L, left (klS f.n) = true) → metF left L = 0
  | [], _ => rfl
  | f :: L, h => by
    unfold metF
    rw [if_pos (h f (List.mem_cons_self ..)), metF_start fun g hg => h g (List.mem_cons_of_mem _ hg)]; rfl
theorem metF_end {left : Lit → Bool} : ∀ {L : List Fl}, (∀ f ∈ L, left (klS f.n) = false) → metF left L = usedF L
  | [], _ => rfl
  | f :: L, h => by
    unfold metF
    rw [h f (List.mem_cons_self ..), metF_end fun g hg => h g (List.mem_cons_of_mem _ hg), usedF_cons]; rfl
theorem metF_congr {left left' : Lit → Bool} : ∀ {L : List Fl}, (∀ f ∈ L, left (klS f.n) = left' (klS f.n)) → metF left L = metF left' L
  | [], _ => rfl
  | f :: L, h => by
    unfold metF
    rw [h f (List.mem_cons_self ..), metF_congr fun g hg => h g (List.mem_cons_of_mem _ hg)]
theorem metF_step {left left' : Lit → Bool} {x : ByteArray} (hx : left (klS x) = true) (hx' : left' (klS x) = false) (ho : ∀ y, y ≠ x → left' (klS y) = left (klS y)) :
    ∀ {L : List Fl} {f : Fl}, Rises L → getF L x = some f → metF left' L = metF left L + f.b.size
  | g :: L, f, hr, hf => by
    obtain ⟨h1, h2⟩ := List.pairwise_cons.1 hr
    rw [getF_cons] at hf
    unfold metF
    split at hf
    · rename_i e
      injection hf with hf
      subst hf
      have e' : g.n = x := toList_inj e
      rw [e', hx, hx', metF_congr (left := left') (left' := left) (fun k hk => ho k.n (fun q => ltN_irrefl x (by have := h1 k hk; rw [e', q] at this; exact this)))]
      simp; omega
    · rename_i e
      have := metF_step hx hx' ho h2 hf
      rw [ho g.n (fun q => e (by rw [q])), this]
      split <;> omega
/-- What the map knows of a key of it. -/
theorem MapG.known {D : DataW (ByteArray × Int)} {L : List Fl} (hD : ∀ x, okS x → Maps.has D (klS x) = (flH L x).isSome ∧ ∀ y, flH L x = some y → ∀ z, D.atKey (klS x) z = .held y) {x : ByteArray} (hx : okS x) (h : Maps.has D (klS x) = true) : ∃ f, getF L x = some f ∧ f.n = x := by
  have h1 := (hD x hx).1
  rw [h] at h1
  unfold flH at h1
  cases hg : getF L x with
  | none => rw [hg] at h1; simp at h1
  | some f => exact ⟨f, rfl, (getF_some hg).2⟩
theorem decR_F {v : Value} {y : DataW (ByteArray × Int) × List MemPlace} (h : decR decF v = some y) : ∃ c, v = evF c ∧ y.1 = .held c := by
  unfold decR at h
  cases hd : decF v with
  | none => rw [hd] at h; cases h
  | some c =>
    rw [hd] at h
    simp only [Option.map_some, Option.some.injEq] at h
    exact ⟨c, filesT.ed v c hd, by rw [← h]⟩

set_option maxRecDepth 100000 in
set_option maxHeartbeats 1600000 in
theorem used_any (w : World) (d b : Nat) (s : DS) (h : Disk w d b s) (ho : DOk s) :
    Calls Try.prog 16 #[.pointer (some ⟨d, 0, none⟩)] w fun e w' => e = .returned (.int .i64 (usedF s.L)) ∧ Below w.heap.size w w' := by
  have c0 := h.c0
  have hlt := h.lt
  obtain ⟨hl1, hl2⟩ := hlt
  obtain ⟨D, hown, hsz, hD⟩ := h.2.1
  have hr := ho.rise
  have hro := ho.room
  have hfl := ho.file
  have hfl' := Lib.hid hfl; clear hfl
  have hD' := Lib.hid hD; clear hD
  have hr' := Lib.hid hr; clear hr
  have hro' := Lib.hid hro; clear hro
  clear h ho hsz
  go_enter Try.func16, Try.ntmps16
  go_wp2_with (first
    | (go_at_call 40; (with_reducible refine (there_ok _ d b c0).mono ?_); rintro e w1 ⟨rfl, rfl⟩)
    | (at_range; refine wpList_range_own _ rfl _ 48 rfl 9 72 (string_keyed Try.underlying9) Try.underlying48 _ b s.L.length _ rfl hown ?_; intro w0 hrg0 hg0 hs0)
    | go_in)
  go_frame
  go_loopw [3, 5] (fun s3 _ wr => ∃ (left : Lit → Bool) (cnt : Nat), s3 = .int .i64 (metF left s.L) ∧ wr.ranges Try.prog 9 (decR decF) b w.heap.size s.L.length D left cnt ∧ Below w.heap.size w wr)
    (fun _ _ wr => wr.rangeLeft b w.heap.size)
  case atStart =>
    refine ⟨_, _, ?_, hrg0, (Below.refl _ _).grown hg0 (Nat.le_refl _) (fun j hj => by cases hj)⟩
    rw [metF_start fun f hf => ?_]
    have := (hD'.out f.n (mayN_ok (hfl'.out f hf).1)).1
    rw [this]; unfold flH; rw [getF_yes hr'.out hf]; rfl
  case round =>
    obtain ⟨left, cnt, rfl, hrg, hnx⟩ := hrel
    have hml := metF_le left s.L
    obtain ⟨hm0, hm1⟩ := hml
    go_wp2_with (first
      | (at_next; refine wpList_next_ranges _ rfl _ rfl 9 (string_keyed Try.underlying9) (decR decF) (fun x : ByteArray => Value.string x) evF (fun key kl hk => by obtain ⟨x, hx, _⟩ := keyOf_S Try.underlying9 hk; exact ⟨x, hx⟩) (fun v y hv => by obtain ⟨c, hc, _⟩ := decR_F hv; exact ⟨c, hc⟩) b w.heap.size s.L.length _ _ _ rfl hrg ?_ ?_)
      | go_in)
    · intro hc0 hl0
      have e : metF left s.L = usedF s.L := metF_end fun f _ => hl0 _
      rw [e]
      clear hl0 e
      go_wp2
      go_ret
      exact ⟨rfl, hnx⟩
    · intro x cb cs kl yd yp w2 cnt2 hkey hlk hv hat hrg2 hlt hg2 hs2 hen
      obtain ⟨x', ex, rfl, hok⟩ := keyOf_S Try.underlying9 hkey
      injection ex with ex
      subst ex
      have hhas : Maps.has D (klS x) = true := has_true_of_atKey hat
      obtain ⟨f, hf, hfn⟩ := MapG.known hD'.out hok hhas
      have hyd : yd = .held (f.b, f.s) := by
        rw [← hat (.held (ByteArray.empty, 0))]
        exact ((hD'.out x hok).2 (f.b, f.s) (by unfold flH; rw [hf]; rfl)) _
      obtain ⟨c', ec, ec'⟩ := decR_F hv
      have hc : (f.b, f.s) = c' := by
        have ec' : yd = .held c' := ec'
        rw [hyd] at ec'
        injection ec'
      subst hc
      unfold evF at ec
      simp only [Value.agg.injEq, Array.mk.injEq, List.cons.injEq, Value.string.injEq, Value.int.injEq, and_true, true_and] at ec
      obtain ⟨rfl, rfl⟩ := ec
      have hstep := metF_step (left' := fun z => left z && !z.sameKey (klS x)) hlk (by simp [klS, Lit.sameKey]) (fun y hy => by rw [sameKey_ne (fun e => hy (klS_inj e))]; simp) hr'.out hf
      have hml2 := metF_le (fun z => left z && !z.sameKey (klS x)) s.L
      rw [hstep] at hml2
      obtain ⟨-, hm2⟩ := hml2
      have hr1 := hro'.out.1
      have hr2 := hro'.out.2
      have hstep' := Lib.hid hstep
      have hsz2 := Lib.hid hs2
      have hrgn := Lib.hid hrg2
      have hnx2 : Below w.heap.size w w2 := hnx.grown hg2 hnx.size (fun j hj => by cases hj; exact Nat.le_refl _)
      have hnx' := Lib.hid hnx2
      have hrr := hrg.left_eq
      have hrr' := Lib.hid hrr
      clear hstep hs2 hrg2 hnx2 hrr hv hkey hat hlk hhas hf hrg hnx hyd
      unfold evF at hen ⊢
      go_wp2
      go_roundw
      case rel =>
        have hb2 := hnx'.out
        refine ⟨fun z => left z && !z.sameKey (klS x), cnt2, ?_, hrgn.out.alloc _, hb2.alloc hb2.size _⟩
        rw [hstep'.out]
      case measure => rw [(hrgn.out.alloc _).left_eq, hrr'.out]; exact hlt

end Go.Proofs.Ytgpdbifgbabnnaa
