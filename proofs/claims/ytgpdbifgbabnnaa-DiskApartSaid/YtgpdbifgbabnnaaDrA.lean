/- The document's disk in memory ('DD'); May, Find, Used, burns, New, Fuse, Crash, Read. Conditions: the disk's memory as 'DD' says. Written by gen_drA.py. -/
import Derived.Test.YtgpdbifgbabnnaaDkL
import Derived.Test.YtgpdbifgbabnnaaDkW
import Derived.Test.YtgpdbifgbabnnaaProg
import Derived.Test.YtgpdbifgbabnnaaRegH
import Derived.Test.YtgpdbifgbabnnaaBlkAt
import Derived.Test.YtgpdbifgbabnnaaOpen
import Derived.Test.YtgpdbifgbabnnaaOwnSub
import Derived.Test.YtgpdbifgbabnnaaStrs0
import Derived.Deep.Quiet
namespace Go.Proofs.Ytgpdbifgbabnnaa
open Go.RowKit
set_option linter.unusedVariables false
set_option linter.unusedSimpArgs false

def flEnc (f : Fl) : List Value := [.string f.n, .string f.b, .int .i64 f.s]
theorem flEnc_len (f : Fl) : (flEnc f).length = 3 := rfl
theorem flEnc_one (f : Fl) : ∀ u ∈ flEnc f, u.oneCell' = true := by simp [flEnc, Value.oneCell']
theorem info_fl : (Try.prog.info? 66).map (fun i => (i.zero, i.size, i.bytes)) = some (some (.agg #[.string (ByteArray.mk #[]), .string (ByteArray.mk #[]), .int .i64 0]), 3, 40) := by kernel_rfl
theorem elem_fl : ElemT Try.prog 57 66 3 40 := ElemT.mk' Try.underlying57 info_fl rfl (by omega)
/-- The document's disk at block q: its files in the slice v. -/
def DD (w : World) (q : Nat) (v : Value) (s : DS) : Prop :=
  Blk w q [v, .int .i64 s.room, .int .i64 s.left, .bool s.off] ∧ Own 0 66 3 flEnc w v s.L ∧ v.ownBlock ≠ some q
def DQ (q : Nat) (v : Value) (k : Nat) : Prop := k = q ∨ v.ownBlock = some k
/-- One step of the document's disk. -/
def DT (w w' : World) (q : Nat) (v : Value) (s' : DS) : Prop := ∃ v', DD w' q v' s' ∧ Upd (DQ q v) w w' ∧ ∀ k, DQ q v' k → DQ q v k ∨ w.heap.size ≤ k
variable {w w' : World} {q : Nat} {v : Value} {s : DS}
theorem DD.c0 (h : DD w q v s) : w.cell? ⟨q, 0, none⟩ = some v := h.1.cell 0
theorem DD.c1 (h : DD w q v s) : w.cell? ⟨q, 1, none⟩ = some (.int .i64 s.room) := h.1.cell 1
theorem DD.c2 (h : DD w q v s) : w.cell? ⟨q, 2, none⟩ = some (.int .i64 s.left) := h.1.cell 2
theorem DD.c3 (h : DD w q v s) : w.cell? ⟨q, 3, none⟩ = some (.bool s.off) := h.1.cell 3
theorem DD.pure (h : DD w q v s) (hb : Below w.heap.size w w') : DD w' q v s := ⟨h.1.pure hb, h.2.1.pure hb, h.2.2⟩
theorem DD.upd {S : Nat → Prop} (h : DD w q v s) (hb : Upd S w w') (hs : ∀ k, DQ q v k → ¬ S k) : DD w' q v s := ⟨h.1.upd hb (hs q (.inl rfl)), h.2.1.upd hb (fun k hk => hs k (.inr hk)), h.2.2⟩
theorem DD.slc (h : DD w q v s) : Slc flEnc 3 w v s.L := h.2.1.slc flEnc_len
theorem DD.lt (h : DD w q v s) {k : Nat} (hk : DQ q v k) : k < w.heap.size := by
  rcases hk with rfl | hk
  · exact h.1.lt
  · exact h.2.1.lt hk
theorem DT.stay (h : DD w q v s) (hb : Below w.heap.size w w') : DT w w' q v s := ⟨v, h.pure hb, Upd.of_below hb, fun k hk => .inl hk⟩
theorem DT.trans {w2 : World} {s2 : DS} (h : ∃ v1, DD w' q v1 s ∧ Upd (DQ q v) w w' ∧ (∀ k, DQ q v1 k → DQ q v k ∨ w.heap.size ≤ k) ∧ DT w' w2 q v1 s2) : DT w w2 q v s2 := by
  obtain ⟨v1, h1, u1, k1, v2, h2, u2, k2⟩ := h
  refine ⟨v2, h2, u1.trans u2 (fun i hi hl => ?_), fun k hk => ?_⟩
  · rcases k1 i hi with h | h
    · exact h
    · omega
  · rcases k2 k hk with h | h
    · exact k1 k h
    · exact .inr (Nat.le_trans u1.size h)
theorem Own.atd {α : Type} {base : Nat} {e : TypeId} {m : Nat} {enc : α → List Value} {w : World} {v : Value} {L : List α} (hm : ∀ x, (enc x).length = m) (h : Own base e m enc w v L) (k : Nat) (hk : k < L.length) :
    ∃ g cap, v = .slice (some ⟨g, 0, none⟩) L.length cap ∧ (∀ j u, (enc L[k])[j]? = some u → w.cell? ⟨g, k * m + j, none⟩ = some u) ∧ ∀ j, w.frozen? ⟨g, j, none⟩ = false := by
  obtain ⟨g, cap, rfl, h1, h2⟩ := h.shape (fun e => by rw [e] at hk; simp at hk)
  exact ⟨g, cap, rfl, fun j u hu => h.cell hm k hk j u hu, fun j => h.frozen j⟩
theorem Own.lens {α : Type} {base : Nat} {e : TypeId} {m : Nat} {enc : α → List Value} {w : World} {v : Value} {L : List α} (h : Own base e m enc w v L) : ∃ a c, v = .slice a L.length c := by
  rcases h.cases with ⟨rfl, rfl⟩ | ⟨g, cap, rfl, -⟩
  · exact ⟨none, 0, rfl⟩
  · exact ⟨_, _, rfl⟩

set_option maxRecDepth 100000 in
set_option maxHeartbeats 1600000 in
theorem dmay_any (w : World) (x : ByteArray) (hx : x.size ≤ 1000000) :
    Calls Try.prog 53 #[.string x] w fun e w' => e = .returned (.bool (decide (MayN x))) ∧ w = w' := by
  obtain ⟨r, hr⟩ : ∃ r, r = decide (MayN x) := ⟨_, rfl⟩
  rw [← hr]
  have hr' := Lib.hid hr; clear hr
  go_enter Try.func53, Try.ntmps53
  go_wp2
  go_loop [3] (fun s3 => ∃ k : Nat, k ≤ x.size ∧ s3 = .int .i64 k ∧ ∀ j, ∀ h : j < x.size, j < k → okB x[j]) (fun s3 => x.size - (intOf s3).toNat)
  case atStart => exact ⟨0, by omega, rfl, fun j _ h => by omega⟩
  case round =>
    obtain ⟨k, hk, rfl, hall⟩ := hrel
    have hall' := Lib.hid hall; clear hall
    by_cases hlt : k < x.size
    · by_cases hc : okB x[k]
      · obtain ⟨c1, c2⟩ := hc
        go_wp2
        go_round
        case rel => exact ⟨k + 1, by omega, by go_num, fun j h hj => by
          rcases Nat.lt_or_ge j k with q | q
          · exact hall'.out j h q
          · obtain rfl : j = k := by omega
            exact ⟨c1, c2⟩⟩
        case measure => simp [intOf]; omega
      · have hn : r = false := by rw [hr'.out]; exact decide_eq_false (fun h => hc (h.2.2 _ (by rw [ByteArray.toList_eq]; exact Array.getElem_mem_toList (xs := x.data) hlt)))
        subst hn
        unfold okB at hc
        by_cases c1 : 33 ≤ x[k].toNat
        · have c2 : ¬ x[k].toNat ≤ 126 := fun q => hc ⟨c1, q⟩
          clear hc
          go_wp2
          go_ret
          exact ⟨rfl, rfl⟩
        · clear hc
          go_wp2
          go_ret
          exact ⟨rfl, rfl⟩
    · have hw : 1 ≤ x.size → x.size ≤ 40 → r = true := fun h1 h2 => by
        rw [hr'.out]
        exact decide_eq_true ⟨h1, h2, fun c hc => by
          rw [ByteArray.toList_eq] at hc
          obtain ⟨i, hi, e⟩ := List.mem_iff_getElem.1 hc
          have hi' : i < x.size := by simpa using hi
          have := hall'.out i hi' (by omega)
          rw [← e]; exact this⟩
      have hw0 : ¬ (1 ≤ x.size ∧ x.size ≤ 40) → r = false := fun h => by rw [hr'.out]; exact decide_eq_false (fun q => h ⟨q.1, q.2.1⟩)
      by_cases h1 : 1 ≤ x.size
      · by_cases h2 : x.size ≤ 40
        · obtain rfl := hw h1 h2
          clear hw hw0
          go_wp2
          go_ret
          refine ⟨?_, rfl⟩
          show Ending.returned (.bool (decide ((x.size : Int) ≤ 40))) = _
          rw [decide_eq_true (by omega)]
        · obtain rfl := hw0 (fun q => h2 q.2)
          clear hw hw0
          go_wp2
          go_ret
          refine ⟨?_, rfl⟩
          show Ending.returned (.bool (decide ((x.size : Int) ≤ 40))) = _
          rw [decide_eq_false (by omega)]
      · obtain rfl := hw0 (fun q => h1 q.1)
        clear hw hw0
        go_wp2
        go_ret
        exact ⟨rfl, rfl⟩

/-- What Find tells. -/
def FP (L : List Fl) (x : ByteArray) (i : Int) : Prop := (i = -1 ∧ getF L x = none) ∨ ∃ k, ∃ h : k < L.length, i = (k : Int) ∧ L[k].n = x
set_option maxRecDepth 100000 in
set_option maxHeartbeats 1600000 in
theorem dfind_any (w : World) (q : Nat) (v : Value) (s : DS) (x : ByteArray) (h : DD w q v s) (hL : s.L.length < 1000000) :
    Calls Try.prog 54 #[.pointer (some ⟨q, 0, none⟩), .string x] w fun e w' => (∃ i, e = .returned (.int .i64 i) ∧ FP s.L x i) ∧ w = w' := by
  have hown := h.2.1
  have c0 := h.c0
  obtain ⟨a, c, rfl⟩ := hown.lens
  have hown' := Lib.hid hown; clear hown
  go_enter Try.func54, Try.ntmps54
  go_wp2
  go_loop [5] (fun s5 => ∃ k : Nat, k ≤ s.L.length ∧ s5 = .int .i64 k ∧ ∀ j, ∀ h : j < s.L.length, j < k → s.L[j].n ≠ x) (fun s5 => s.L.length - (intOf s5).toNat)
  case atStart => exact ⟨0, by omega, rfl, fun j _ h => by omega⟩
  case round =>
    obtain ⟨k, hk, rfl, hall⟩ := hrel
    have hall' := Lib.hid hall; clear hall
    by_cases hlt : k < s.L.length
    · obtain ⟨g, cap, ev, hc, -⟩ := Own.atd flEnc_len hown'.out k hlt
      have hc0 := hc 0 (.string s.L[k].n) rfl
      simp only [Value.slice.injEq, Nat.add_zero, and_true, true_and] at ev hc0
      obtain ⟨rfl, rfl⟩ := ev
      clear hc
      cases hq : sameS s.L[k].n x
      · have hne : s.L[k].n ≠ x := sameS_no.1 hq
        have hne' := Lib.hid hne; clear hne
        unfold sameS at hq
        go_wp2
        go_round
        case rel => exact ⟨k + 1, by omega, by go_num, fun j h hj => by
          rcases Nat.lt_or_ge j k with q | q
          · exact hall'.out j h q
          · obtain rfl : j = k := by omega
            exact hne'.out⟩
        case measure => simp [intOf]; omega
      · have he : s.L[k].n = x := sameS_iff.1 hq
        have he' := Lib.hid he; clear he
        unfold sameS at hq
        go_wp2
        go_ret
        exact ⟨⟨_, rfl, .inr ⟨k, hlt, rfl, he'.out⟩⟩, rfl⟩
    · go_wp2
      go_ret
      refine ⟨⟨_, rfl, .inl ⟨rfl, getF_none.2 fun f hf e => ?_⟩⟩, rfl⟩
      obtain ⟨j, hj, ej⟩ := List.mem_iff_getElem.1 hf
      exact hall'.out j hj (by omega) (by rw [ej]; exact e)

theorem usedF_take (L : List Fl) (k : Nat) (h : k < L.length) : usedF (L.take (k + 1)) = usedF (L.take k) + L[k].b.size := by
  induction L generalizing k with
  | nil => simp at h
  | cons f L ih =>
    cases k with
    | zero => simp [usedF_cons, usedF_nil]
    | succ k =>
      simp only [List.take_succ_cons, usedF_cons, List.getElem_cons_succ]
      rw [ih k (by simpa using h)]; omega
theorem usedF_take_le (L : List Fl) (k : Nat) : usedF (L.take k) ≤ usedF L := by
  induction L generalizing k with
  | nil => simp
  | cons f L ih =>
    cases k with
    | zero => simp [usedF_nil]; exact usedF_nonneg _
    | succ k => simp only [List.take_succ_cons, usedF_cons]; have := ih k; omega
set_option maxRecDepth 100000 in
set_option maxHeartbeats 1600000 in
theorem dused_any (w : World) (q : Nat) (v : Value) (s : DS) (h : DD w q v s) (ho : DOk s) (hL : s.L.length < 1000000) :
    Calls Try.prog 39 #[.pointer (some ⟨q, 0, none⟩)] w fun e w' => e = .returned (.int .i64 (usedF s.L)) ∧ w = w' := by
  have hown := h.2.1
  have c0 := h.c0
  have hr1 := ho.room.1
  have hr2 := ho.room.2
  obtain ⟨a, c, rfl⟩ := hown.lens
  have hown' := Lib.hid hown; clear hown
  go_enter Try.func39, Try.ntmps39
  go_wp2
  go_loop [3, 4] (fun s3 s4 => ∃ k : Nat, k ≤ s.L.length ∧ s4 = .int .i64 k ∧ s3 = .int .i64 (usedF (s.L.take k))) (fun _ s4 => s.L.length - (intOf s4).toNat)
  case atStart => exact ⟨0, by omega, rfl, by simp [usedF_nil]⟩
  case round =>
    obtain ⟨k, hk, rfl, rfl⟩ := hrel
    by_cases hlt : k < s.L.length
    · obtain ⟨g, cap, ev, hc, -⟩ := Own.atd flEnc_len hown'.out k hlt
      have hc0 := hc 1 (.string s.L[k].b) rfl
      simp only [Value.slice.injEq, Nat.add_zero, and_true, true_and] at ev hc0
      obtain ⟨rfl, rfl⟩ := ev
      clear hc
      have u1 := usedF_take s.L k hlt
      have u2 := usedF_take_le s.L (k + 1)
      have u3 := usedF_nonneg (s.L.take k)
      rw [u1] at u2
      have u1' := Lib.hid u1; clear u1
      go_wp2
      go_round
      case rel => exact ⟨k + 1, by omega, by go_num, by rw [u1'.out]⟩
      case measure => simp [intOf]; omega
    · obtain rfl : k = s.L.length := by omega
      rw [List.take_length]
      go_wp2
      go_ret
      exact ⟨rfl, rfl⟩

set_option maxRecDepth 100000 in
theorem dnew_any (w : World) (n : Int) :
    Calls Try.prog 9 #[.int .i64 n] w fun e w' => e = .returned (.pointer (some ⟨w.heap.size, 0, none⟩)) ∧ Below w.heap.size w w' ∧ DD w' w.heap.size (.slice none 0 0) ⟨[], maxI n 0, 0, false⟩ := by
  have hd : ∀ l, maxI n 0 = l → Below w.heap.size w (w.alloc (.cells #[.slice none 0 0, .int .i64 l, .int .i64 0, .bool false] 59)) ∧ DD (w.alloc (.cells #[.slice none 0 0, .int .i64 l, .int .i64 0, .bool false] 59)) w.heap.size (.slice none 0 0) ⟨[], maxI n 0, 0, false⟩ := fun l e => by
    subst e
    exact ⟨(Below.refl _ _).alloc (Nat.le_refl _) _, Blk.new w [.slice none 0 0, .int .i64 (maxI n 0), .int .i64 0, .bool false] _, Own.nil, by simp [Value.ownBlock]⟩
  have hd' := Lib.hid hd; clear hd
  by_cases hn : n < 0
  · go_enter Try.func9, Try.ntmps9
    go_wp2
    go_ret
    exact ⟨rfl, hd'.out _ (by unfold maxI; rw [if_pos (by omega)])⟩
  · by_cases hn2 : 0 < n
    · go_enter Try.func9, Try.ntmps9
      go_wp2
      go_ret
      exact ⟨rfl, hd'.out _ (by unfold maxI; rw [if_neg (by omega)])⟩
    · obtain rfl : n = 0 := by omega
      go_enter Try.func9, Try.ntmps9
      go_wp2
      go_ret
      exact ⟨rfl, hd'.out _ (by unfold maxI; rw [if_pos (by omega)])⟩

theorem DT.cells {cs : List Value} {s' : DS} (h : DD w q v s) (hb : Blk w' q cs) (e : cs = [v, .int .i64 s'.room, .int .i64 s'.left, .bool s'.off]) (hu : Upd (fun k => k = q) w w') (hl : s'.L = s.L) : DT w w' q v s' := by
  subst e
  refine ⟨v, ⟨hb, ?_, h.2.2⟩, hu.mono (fun k hk _ => .inl hk), fun k hk => .inl hk⟩
  rw [hl]
  exact h.2.1.upd hu (fun k hk e => h.2.2 (by rw [hk, e]))

set_option maxRecDepth 100000 in
theorem dcrash_any (w : World) (q : Nat) (v : Value) (s : DS) (h : DD w q v s) :
    Calls Try.prog 36 #[.pointer (some ⟨q, 0, none⟩)] w fun e w' => e = .returned (.tuple #[]) ∧ DT w w' q v (crD s) := by
  have c2 := h.c2
  have c3 := h.c3
  have f2 := h.1.frozen 2
  have f3 := h.1.frozen 3
  go_enter Try.func36, Try.ntmps36
  go_wp2
  go_end0
  exact ⟨rfl, DT.cells h ((h.1.set 3 (.bool true)).set 2 (.int .i64 0)) rfl ((Upd.set (S := fun k => k = q) (p := ⟨q, 3, none⟩) rfl _).trans (Upd.set (S := fun k => k = q) (p := ⟨q, 2, none⟩) rfl _) (fun i hi _ => hi)) rfl⟩
set_option maxRecDepth 100000 in
theorem dfuse_any (w : World) (q : Nat) (v : Value) (s : DS) (n : Int) (h : DD w q v s) :
    Calls Try.prog 35 #[.pointer (some ⟨q, 0, none⟩), .int .i64 n] w fun e w' => e = .returned (.tuple #[]) ∧ DT w w' q v (fuD s n) := by
  have c2 := h.c2
  have c3 := h.c3
  have f2 := h.1.frozen 2
  have f3 := h.1.frozen 3
  cases hoff : s.off
  · rw [hoff] at c3
    have hS : ∀ l, maxI n 0 = l → DT w (w.setCell ⟨q, 2, none⟩ (.int .i64 l)) q v (fuD s n) := fun l e => by
      subst e
      have e1 : fuD s n = { s with left := maxI n 0 } := by unfold fuD; rw [if_neg (by rw [hoff]; simp)]
      rw [e1]
      exact DT.cells h (h.1.set 2 (.int .i64 (maxI n 0))) rfl (Upd.set (S := fun k => k = q) (p := ⟨q, 2, none⟩) rfl _) rfl
    have hS' := Lib.hid hS; clear hS
    by_cases hn : n < 0
    · skip
      go_enter Try.func35, Try.ntmps35
      go_wp2
      go_end0
      exact ⟨rfl, hS'.out _ (by unfold maxI; rw [if_pos (by omega)])⟩
    · by_cases hn2 : 0 < n
      · skip
        go_enter Try.func35, Try.ntmps35
        go_wp2
        go_end0
        exact ⟨rfl, hS'.out _ (by unfold maxI; rw [if_neg (by omega)])⟩
      · obtain rfl : n = 0 := by omega
        go_enter Try.func35, Try.ntmps35
        go_wp2
        go_end0
        exact ⟨rfl, hS'.out _ (by unfold maxI; rw [if_pos (by omega)])⟩
  · rw [hoff] at c3
    have e1 : fuD s n = s := by unfold fuD; rw [if_pos hoff]
    rw [e1]
    go_enter Try.func35, Try.ntmps35
    go_wp2
    go_end0
    exact ⟨rfl, DT.stay h (Below.refl _ _)⟩
/-- What burns leaves. -/
def bnD (s : DS) : DS := if s.left = 0 then s else { s with left := s.left - 1, off := decide (s.left = 1) }
set_option maxRecDepth 100000 in
theorem dburns_any (w : World) (q : Nat) (v : Value) (s : DS) (h : DD w q v s) (hl : 0 ≤ s.left ∧ s.left < 9223372036854775808) :
    Calls Try.prog 56 #[.pointer (some ⟨q, 0, none⟩)] w fun e w' => e = .returned (.bool (decide (s.left = 1))) ∧ DT w w' q v (bnD s) := by
  have c2 := h.c2
  have c3 := h.c3
  have f2 := h.1.frozen 2
  have f3 := h.1.frozen 3
  obtain ⟨hl0, hl1⟩ := hl
  by_cases h0 : s.left = 0
  · have e1 : bnD s = s := by unfold bnD; rw [if_pos h0]
    have e2 : decide (s.left = 1) = false := by rw [h0]; rfl
    rw [e1, e2]
    rw [h0] at c2
    go_enter Try.func56, Try.ntmps56
    go_wp2
    go_ret
    exact ⟨rfl, DT.stay h (Below.refl _ _)⟩
  · have e1 : bnD s = { s with left := s.left - 1, off := decide (s.left = 1) } := by unfold bnD; rw [if_neg h0]
    rw [e1]
    by_cases h1 : s.left = 1
    · have e2 : decide (s.left = 1) = true := decide_eq_true h1
      rw [e2]
      have hd : DT w ((w.setCell ⟨q, 2, none⟩ (.int .i64 0)).setCell ⟨q, 3, none⟩ (.bool true)) q v { s with left := s.left - 1, off := true } := DT.cells h ((h.1.set 2 (.int .i64 0)).set 3 (.bool true)) (by rw [h1]; rfl) ((Upd.set (S := fun k => k = q) (p := ⟨q, 2, none⟩) rfl _).trans (Upd.set (S := fun k => k = q) (p := ⟨q, 3, none⟩) rfl _) (fun i hi _ => hi)) rfl
      have hd' := Lib.hid hd; clear hd
      rw [h1] at c2
      go_enter Try.func56, Try.ntmps56
      go_wp2
      go_ret
      exact ⟨rfl, hd'.out⟩
    · have e2 : decide (s.left = 1) = false := decide_eq_false h1
      rw [e2]
      have hbq : (s.left - 1 == 0) = false := by simp; omega
      have hd : DT w ((w.setCell ⟨q, 2, none⟩ (.int .i64 (s.left - 1))).setCell ⟨q, 3, none⟩ (.bool (s.left - 1 == 0))) q v { s with left := s.left - 1, off := false } := by
        rw [hbq]; exact DT.cells h ((h.1.set 2 (.int .i64 (s.left - 1))).set 3 (.bool false)) rfl ((Upd.set (S := fun k => k = q) (p := ⟨q, 2, none⟩) rfl _).trans (Upd.set (S := fun k => k = q) (p := ⟨q, 3, none⟩) rfl _) (fun i hi _ => hi)) rfl
      have hd' := Lib.hid hd; clear hd hbq
      go_enter Try.func56, Try.ntmps56
      go_wp2
      go_ret
      exact ⟨by first | rfl | (simp; omega), hd'.out⟩

end Go.Proofs.Ytgpdbifgbabnnaa
