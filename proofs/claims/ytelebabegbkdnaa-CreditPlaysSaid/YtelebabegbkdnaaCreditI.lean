/- The document's round: its memory ('RefR'), Find, in, Add, Give, Stop. Conditions: the memory as 'RefR' says; at most a million subscriptions. -/
import Derived.Test.YtelebabegbkdnaaCreditH
import Derived.Deep.RegionHeld3
import Derived.BigRegion
import Derived.RegionTactic
import Derived.IntWalk
namespace Go.Proofs.Ytelebabegbkdnaa
open Go.RowKit
set_option linter.unusedVariables false

theorem below_drew (w : World) : Below w.heap.size w w.drew := ⟨rfl, rfl, rfl, Nat.le_refl _, fun _ _ => rfl⟩
def refEnc (p : Sub) : List Value := [.string p.1, .int .u64 p.2]
theorem refEnc_len (p : Sub) : (refEnc p).length = 2 := rfl
theorem refEnc_one (p : Sub) : ∀ u ∈ refEnc p, u.oneCell' = true := by simp [refEnc, Value.oneCell']
theorem info_rsub : (Try.prog.info? 50).map (fun i => (i.zero, i.size, i.bytes)) = some (some (.agg #[.string ⟨#[]⟩, .int .u64 0]), 2, 24) := by kernel_rfl
theorem elem_rsub : ElemT Try.prog 38 50 2 24 := ElemT.mk' Try.underlying38 info_rsub rfl (by omega)

/-- The document's round at address p: its slice v. -/
def RefR (w : World) (p : Nat) (v : Value) (L : List Sub) (last : ByteArray) : Prop :=
  Blk w p [v, .string last] ∧ Own 0 50 2 refEnc w v L ∧ v.ownBlock ≠ some p
def RefS (p : Nat) (v : Value) (k : Nat) : Prop := k = p ∨ v.ownBlock = some k
def RStep (w w' : World) (p : Nat) (v : Value) (L : List Sub) (last : ByteArray) : Prop :=
  ∃ v', RefR w' p v' L last ∧ Upd (RefS p v) w w' ∧ ∀ k, RefS p v' k → RefS p v k ∨ w.heap.size ≤ k

variable {w w' : World} {p : Nat} {v : Value} {L : List Sub} {last : ByteArray}
theorem RefR.c0 (h : RefR w p v L last) : w.cell? ⟨p, 0, none⟩ = some v := h.1.cell 0
theorem RefR.c1 (h : RefR w p v L last) : w.cell? ⟨p, 1, none⟩ = some (.string last) := h.1.cell 1
theorem RefR.slc (h : RefR w p v L last) : Slc refEnc 2 w v L := h.2.1.slc refEnc_len
theorem RefR.pure (h : RefR w p v L last) (hb : Below w.heap.size w w') : RefR w' p v L last := ⟨h.1.pure hb, h.2.1.pure hb, h.2.2⟩
theorem RefR.drew (h : RefR w p v L last) : RefR w.drew p v L last := h
theorem RefR.lt (h : RefR w p v L last) {k : Nat} (hk : RefS p v k) : k < w.heap.size := by
  rcases hk with rfl | hk
  · exact h.1.lt
  · exact h.2.1.lt hk
theorem RStep.refl (h : RefR w p v L last) : RStep w w p v L last := ⟨v, h, Upd.refl _ _, fun _ h => .inl h⟩
theorem RStep.below {w1 w2 : World} (h : RStep w w1 p v L last) (hb : Below w1.heap.size w1 w2) : RStep w w2 p v L last := by
  obtain ⟨v', h1, h2, h3⟩ := h
  exact ⟨v', h1.pure hb, h2.trans (Upd.of_below (S := RefS p v) hb) (fun _ h _ => h), h3⟩
theorem RStep.of_below {w1 w2 : World} (hb : Below w.heap.size w w1) (h : RStep w1 w2 p v L last) : RStep w w2 p v L last := by
  obtain ⟨v', h1, h2, h3⟩ := h
  exact ⟨v', h1, (Upd.of_below (S := RefS p v) hb).trans h2 (fun _ h _ => h), fun k hk => (h3 k hk).imp (fun h => h) (fun h => Nat.le_trans hb.size h)⟩
theorem RefR.shape {i : Nat} (h : RefR w p v L last) (hi : i < L.length) : ∃ g cap, v = .slice (some ⟨g, 0, none⟩) L.length cap ∧ g ≠ p ∧ L.length ≤ cap ∧ cap ≤ 9223372036854775807 := by
  rcases h.2.1.cases with ⟨_, hl⟩ | ⟨g, cap, hv, _, _, hc, hm⟩
  · simp [hl] at hi
  · refine ⟨g, cap, hv, fun e => h.2.2 (by rw [hv, ← e]; rfl), hc, by unfold maxLen at hm; omega⟩
theorem RefR.facts {g n cap i : Nat} (h : RefR w p (.slice (some ⟨g, 0, none⟩) n cap) L last) (hi : i < L.length) :
    w.cell? ⟨p, 0, none⟩ = some (.slice (some ⟨g, 0, none⟩) n cap) ∧ w.cell? ⟨g, i * 2, none⟩ = some (.string L[i].1) ∧ w.cell? ⟨g, i * 2 + 1, none⟩ = some (.int .u64 L[i].2) ∧ ∀ j, w.frozen? ⟨g, j, none⟩ = false :=
  ⟨h.c0, h.2.1.cell refEnc_len i hi 0 _ rfl, h.2.1.cell refEnc_len i hi 1 _ rfl, fun j => h.2.1.frozen j⟩
theorem RefR.set {g n cap i : Nat} (h : RefR w p (.slice (some ⟨g, 0, none⟩) n cap) L last) (hi : i < L.length) (c : Int) :
    RStep w (w.setCell ⟨g, i * 2 + 1, none⟩ (.int .u64 c)) p (.slice (some ⟨g, 0, none⟩) n cap) (L.set i (L[i].1, c)) last :=
  ⟨_, ⟨h.1.other _ _ (by have := h.2.2; simp [Value.ownBlock] at this; exact fun e => this e.symm), h.2.1.set refEnc_len i hi 1 _ (L[i].1, c) (by omega) rfl, h.2.2⟩, Upd.set (S := RefS p (.slice (some ⟨g, 0, none⟩) n cap)) (p := ⟨g, i * 2 + 1, none⟩) (.inr rfl) _, fun k hk => .inl hk⟩

/-- The address of a slice that has rows. -/
theorem Slc.addr {α : Type} {enc : α → List Value} {m : Nat} {w : World} {a : Option Addr} {n cap : Nat} {L : List α} (h : Slc enc m w (.slice a n cap) L) {k : Nat} (hk : k < L.length) : ∃ g off, a = some ⟨g, off, none⟩ := by
  rcases h with ⟨_, _, _, _, h0⟩ | ⟨g, off, cap', hv, _⟩
  · rw [h0] at hk; simp at hk
  · simp only [Value.slice.injEq] at hv; exact ⟨g, off, hv.1⟩

set_option maxHeartbeats 800000 in
theorem ref_find (w : World) (p : Nat) (v : Value) (L : List Sub) (last t : ByteArray) (h : RefR w p v L last) :
    Calls Try.prog 21 #[.pointer (some ⟨p, 0, none⟩), .string t] w fun e w' => e = .returned (.int .i64 (idxOf (findS L t))) ∧ w = w' := by
  have c0 := h.c0
  have hs := h.slc
  obtain ⟨a, cap, rfl, hm⟩ := h.slc.len
  unfold maxLen at hm
  clear h
  go_enter Try.func21, Try.ntmps21
  go_wp2
  go_loop [5] (fun s5 => ∃ k : Nat, k ≤ L.length ∧ s5 = .int .i64 k ∧ findS (L.take k) t = none) (fun s5 => L.length - (intOf s5).toNat)
  case atStart => exact ⟨0, by omega, rfl, by simp [findS]⟩
  case round =>
    obtain ⟨k, hk, rfl, hno⟩ := hrel
    have hno' := Lib.hid hno; clear hno
    by_cases hlt : k < L.length
    · obtain ⟨g, off, rfl⟩ := hs.addr hlt
      have d0 := hs.get k hlt 0 _ rfl
      simp only [Nat.add_zero] at d0
      cases hq : sameS L[k].1 t
      · have hq' := Lib.hid hq
        unfold sameS at hq
        go_wp2
        go_round
        case rel => exact ⟨k + 1, by omega, by go_num, findP_no hlt hno'.out hq'.out⟩
        case measure => simp [intOf]; omega
      · have hq' := Lib.hid hq
        unfold sameS at hq
        go_wp2
        go_ret
        refine ⟨?_, rfl⟩
        unfold findS; rw [findP_yes (p := fun p : Sub => sameS p.1 t) hlt hno'.out hq'.out]; rfl
    · go_wp2
      go_ret
      have : k = L.length := by omega
      subst this
      refine ⟨?_, rfl⟩
      have := hno'.out
      rw [List.take_length] at this
      rw [this]; rfl

set_option maxHeartbeats 800000 in
theorem ref_in (w : World) (v : Value) (M : List ByteArray) (t : ByteArray) (hs : Slc strEnc 1 w v M) :
    Calls Try.prog 31 #[v, .string t] w fun e w' => e = .returned (.bool (M.any (fun x => sameS x t))) ∧ w = w' := by
  obtain ⟨a, cap, rfl, hm⟩ := hs.len
  unfold maxLen at hm
  go_enter Try.func31, Try.ntmps31
  go_wp2
  go_loop [5] (fun s5 => ∃ k : Nat, k ≤ M.length ∧ s5 = .int .i64 k ∧ (M.take k).findIdx? (fun x => sameS x t) = none) (fun s5 => M.length - (intOf s5).toNat)
  case atStart => exact ⟨0, by omega, rfl, by simp⟩
  case round =>
    obtain ⟨k, hk, rfl, hno⟩ := hrel
    have hno' := Lib.hid hno; clear hno
    by_cases hlt : k < M.length
    · obtain ⟨g, off, rfl⟩ := hs.addr hlt
      have d0 := hs.get k hlt 0 _ rfl
      simp only [Nat.add_zero, Nat.mul_one] at d0
      cases hq : sameS M[k] t
      · have hq' := Lib.hid hq
        unfold sameS at hq
        go_wp2
        go_round
        case rel => exact ⟨k + 1, by omega, by go_num, findP_no hlt hno'.out hq'.out⟩
        case measure => simp [intOf]; omega
      · have hq' := Lib.hid hq
        unfold sameS at hq
        go_wp2
        go_ret
        refine ⟨?_, rfl⟩
        rw [List.any_eq_true.2 ⟨M[k], List.getElem_mem hlt, hq'.out⟩]; rfl
    · go_wp2
      go_ret
      have : k = M.length := by omega
      subst this
      refine ⟨?_, rfl⟩
      have := hno'.out
      rw [List.take_length, List.findIdx?_eq_none_iff] at this
      rw [show M.any (fun x => sameS x t) = false from List.any_eq_false.2 (fun x hx => by rw [this x hx]; simp)]; rfl

/-- Add, Give, Stop: the answer and what is left. -/
def addOf (L : List Sub) (t : ByteArray) : Int × List Sub := if t.size = 0 ∨ 40 < t.size then (2, L) else if (findS L t).isSome then (8, L) else (0, L ++ [(t, 0)])

set_option maxHeartbeats 1600000 in
theorem ref_add (w : World) (p : Nat) (v : Value) (L : List Sub) (last t : ByteArray) (h : RefR w p v L last) (hL : L.length ≤ 1000000) (ht : t.size ≤ 1000) :
    Calls Try.prog 12 #[.pointer (some ⟨p, 0, none⟩), .string t] w fun e w' => e = .returned (.int .i64 (addOf L t).1) ∧ RStep w w' p v (addOf L t).2 last := by
  have hf := ref_find w p v L last t h
  have hpl := h.1.lt
  unfold addOf
  by_cases h1 : t.size = 0 ∨ 40 < t.size
  · rw [if_pos h1]
    clear hf
    by_cases hz : t.size < 1
    · go_enter Try.func12, Try.ntmps12
      go_wp2
      go_ret
      exact ⟨rfl, RStep.refl h⟩
    · have h40 : 40 < t.size := by omega
      clear h1
      go_enter Try.func12, Try.ntmps12
      go_wp2
      go_ret
      exact ⟨rfl, RStep.refl h⟩
  · rw [if_neg h1]
    have hz : ¬ t.size < 1 := by omega
    have h40 : ¬ 40 < t.size := by omega
    clear h1
    cases hff : findS L t with
    | some i =>
      rw [hff] at hf
      simp only [idxOf] at hf
      simp only [Option.isSome_some, if_true]
      clear hff
      go_enter Try.func12, Try.ntmps12
      go_wp2_with (go_at_call 21; refine hf.mono ?_; clear hf; rintro e w' ⟨rfl, rfl⟩)
      go_ret
      exact ⟨rfl, RStep.refl h⟩
    | none =>
      rw [hff] at hf
      simp only [idxOf] at hf
      rw [if_neg (by simp)]
      have c0 := h.c0
      clear hff
      go_enter Try.func12, Try.ntmps12
      go_wp2_with (first | (go_at_call 21; refine hf.mono ?_; clear hf; rintro e w' ⟨rfl, rfl⟩) | (at_builtin; refine wpList_app1 rfl _ _ 38 50 rfl elem_rsub refEnc_len refEnc_one _ L rfl (h.2.1.alloc _) w.heap.size 1 (t, 0) rfl (fun j u hu => by rw [(Blk.new _ [.string t, .int .u64 0] _).cell]; exact hu) (by omega) (by unfold maxLen; omega) (Nat.zero_le _) ?_; intro g' cap' w2 hown hgr hfr; have hb2 := (h.1.alloc _).keep (hgr.block p (h.1.alloc _).lt (fun e => h.2.2 e.symm)); have d2 := hb2.cell 0; have f2 := hb2.frozen 0; clear c0))
      go_ret
      have hne : some g' ≠ some p := by
        rcases hfr with h' | h'
        · rw [← h']; exact h.2.2
        · simp at h'; intro e; injection e; omega
      have hu : Upd (RefS p v) w w2 := (Upd.of_below (S := RefS p v) ((Below.refl _ w).alloc (Nat.le_refl _) _)).trans (Upd.grown (S := RefS p v) hgr (fun k hk => .inr hk)) (fun _ h _ => h)
      refine ⟨rfl, _, ⟨hb2.set 0 _, hown.other _ _ (by simp only [Value.ownBlock]; intro k hk e; subst e; exact hne hk), by simpa [Value.ownBlock] using hne⟩,
        hu.trans (Upd.set (S := RefS p v) (p := ⟨p, 0, none⟩) (.inl rfl) _) (fun _ h _ => h), ?_⟩
      rintro k (h | h)
      · exact .inl (.inl h)
      · simp only [Value.ownBlock, Option.some.injEq] at h
        subst h
        rcases hfr with h | h
        · exact .inl (.inr h)
        · simp at h; right; omega

def setOf (L : List Sub) (t : ByteArray) (f : Int → Int) : Int × List Sub := match findS L t with | none => (7, L) | some i => (0, L.modify i (fun x => (x.1, f x.2)))
theorem modify_set {L : List Sub} {i : Nat} (hi : i < L.length) (f : Int → Int) : L.modify i (fun x => (x.1, f x.2)) = L.set i (L[i].1, f L[i].2) := by
  apply List.ext_getElem?
  intro j
  rw [List.getElem?_modify, List.getElem?_set]
  by_cases h : i = j
  · subst h; simp [hi]
  · rw [if_neg h]; simp [h]

set_option maxHeartbeats 1600000 in
theorem ref_give (w : World) (p : Nat) (v : Value) (L : List Sub) (last t : ByteArray) (n : Int) (h : RefR w p v L last) (hL : L.length ≤ 1000000) (hc : ∀ x ∈ L, 0 ≤ x.2 ∧ x.2 ≤ 4294967295) (n0 : 0 ≤ n) (n1 : n ≤ 4294967295) :
    Calls Try.prog 18 #[.pointer (some ⟨p, 0, none⟩), .string t, .int .u32 n] w fun e w' => e = .returned (.int .i64 (setOf L t (gave · n)).1) ∧ RStep w w' p v (setOf L t (gave · n)).2 last := by
  have hf := ref_find w p v L last t h
  unfold setOf
  cases hff : findS L t with
  | none =>
    rw [hff] at hf
    simp only [idxOf] at hf
    simp only
    clear hff
    go_enter Try.func18, Try.ntmps18
    go_wp2_with (go_at_call 21; refine hf.mono ?_; clear hf; rintro e w' ⟨rfl, rfl⟩)
    go_ret
    exact ⟨rfl, RStep.refl h⟩
  | some i =>
    rw [hff] at hf
    simp only [idxOf] at hf
    simp only
    have hi := findS_lt hff
    rw [show (L.modify i fun x => (x.1, gave x.2 n)) = L.set i (L[i].1, gave L[i].2 n) from modify_set hi (fun c => gave c n)]
    clear hff
    obtain ⟨g, cap, rfl, hg, hlc, hcm⟩ := h.shape hi
    obtain ⟨c0, d0, d1, fz⟩ := h.facts hi
    have f1 := fz (i * 2 + 1)
    obtain ⟨k0, k1⟩ := hc _ (List.getElem_mem hi)
    have hst := Lib.hid ((h.set hi (gave L[i].2 n)).below (below_drew _))
    have hgv : (if (4294967295 : Int) < L[i].2 + n then 4294967295 else L[i].2 + n) = gave L[i].2 n := by unfold gave; split <;> split <;> omega
    have hi0 : (0 : Int) ≤ (i : Int) := by omega
    have hi1 : (i : Int) < (L.length : Int) := by omega
    have hwn : IntKind.u64.wrap n = n := IntWalk.u64_in _ (by omega)
    have hsm : IntKind.u64.wrap (L[i].2 + n) = L[i].2 + n := IntWalk.u64_in _ (by omega)
    clear fz hc
    go_enter Try.func18, Try.ntmps18
    go_wp2_with (go_at_call 21; refine hf.mono ?_; clear hf; rintro e w' ⟨rfl, rfl⟩)
    go_region
    all_goals
      go_wp2
      go_ret
      exact ⟨rfl, hst.out⟩

set_option maxHeartbeats 1600000 in
theorem ref_stop (w : World) (p : Nat) (v : Value) (L : List Sub) (last t : ByteArray) (h : RefR w p v L last) (hL : L.length ≤ 1000000) :
    Calls Try.prog 16 #[.pointer (some ⟨p, 0, none⟩), .string t] w fun e w' => e = .returned (.int .i64 (setOf L t (fun _ => 0)).1) ∧ RStep w w' p v (setOf L t (fun _ => 0)).2 last := by
  have hf := ref_find w p v L last t h
  unfold setOf
  cases hff : findS L t with
  | none =>
    rw [hff] at hf
    simp only [idxOf] at hf
    simp only
    clear hff
    go_enter Try.func16, Try.ntmps16
    go_wp2_with (go_at_call 21; refine hf.mono ?_; clear hf; rintro e w' ⟨rfl, rfl⟩)
    go_ret
    exact ⟨rfl, RStep.refl h⟩
  | some i =>
    rw [hff] at hf
    simp only [idxOf] at hf
    simp only
    have hi := findS_lt hff
    rw [show (L.modify i fun x => (x.1, (0 : Int))) = L.set i (L[i].1, 0) from modify_set hi (fun c => 0)]
    clear hff
    obtain ⟨g, cap, rfl, hg, hlc, hcm⟩ := h.shape hi
    obtain ⟨c0, d0, d1, fz⟩ := h.facts hi
    have f1 := fz (i * 2 + 1)
    have hst := Lib.hid (h.set hi 0)
    clear fz
    go_enter Try.func16, Try.ntmps16
    go_wp2_with (go_at_call 21; refine hf.mono ?_; clear hf; rintro e w' ⟨rfl, rfl⟩)
    go_ret
    exact ⟨rfl, hst.out⟩
end Go.Proofs.Ytelebabegbkdnaa
