/- The document's queue: Pass, Next. Conditions: as for its memory. -/
import Derived.Test.YtnmphchlephpbaaQueueM
namespace Go.Proofs.Ytnmphchlephpbaa
open Go.RowKit
variable {w w' : World} {p : Nat} {v : Value} {s : QS}

/-- A message gets an owner, or none. -/
def QS.setOwn (s : QS) (id o : Int) : QS := if o = 0 then s.drop1 id else s.hold id o
theorem setOwn_fields (s : QS) (id o : Int) : (s.setOwn id o).ids = s.ids ∧ (s.setOwn id o).limit = s.limit ∧ (s.setOwn id o).kept = s.kept ∧ (s.setOwn id o).last = s.last := by
  unfold QS.setOwn; split <;> exact ⟨rfl, rfl, rfl, rfl⟩
theorem setOwn_own (s : QS) (id o x : Int) : ((s.setOwn id o).own x).getD 0 = if x = id then o else (s.own x).getD 0 := by
  unfold QS.setOwn
  by_cases h : o = 0
  · rw [if_pos h]; simp only [QS.drop1]
    by_cases hx : x = id
    · rw [if_pos hx, if_pos hx, h]; rfl
    · rw [if_neg hx, if_neg hx]
  · rw [if_neg h]; simp only [QS.hold]
    by_cases hx : x = id
    · rw [if_pos hx, if_pos hx]; rfl
    · rw [if_neg hx, if_neg hx]

theorem inj_rise {L : List Int} (hL : L.Pairwise (· < ·)) {i j : Nat} (hi : i < L.length) (hj : j < L.length) (h : L[i] = L[j]) : i = j := by
  rcases Nat.lt_trichotomy i j with h1 | h1 | h1
  · have := List.pairwise_iff_getElem.1 hL i j hi hj h1; omega
  · exact h1
  · have := List.pairwise_iff_getElem.1 hL j i hj hi h1; omega

theorem msgs_set (s : QS) (hr : s.ids.Pairwise (· < ·)) {i : Nat} (hi : i < s.ids.length) (o : Int) : (s.setOwn s.ids[i] o).msgs = s.msgs.set i (s.ids[i], o) := by
  apply List.ext_getElem?
  intro j
  unfold QS.msgs
  rw [(setOwn_fields s _ o).1, List.getElem?_map, List.getElem?_set]
  by_cases hj : j < s.ids.length
  · rw [List.getElem?_eq_getElem hj]
    by_cases hij : i = j
    · subst hij
      rw [if_pos rfl, if_pos (by simpa using hi)]
      simp only [Option.map_some, QS.msg, setOwn_own]; simp
    · rw [if_neg hij, List.getElem?_map, List.getElem?_eq_getElem hj]
      simp only [Option.map_some, QS.msg, setOwn_own]
      rw [if_neg (fun e => hij (inj_rise hr hi hj e.symm))]
  · rw [List.getElem?_eq_none (by omega)]
    split
    · rename_i hij; subst hij; omega
    · rw [List.getElem?_map, List.getElem?_eq_none (by omega)]; rfl

/-- The store of an owner. -/
theorem ref_set {g cap i : Nat} (h : RefQ w p (.slice (some ⟨g, 0, none⟩) s.ids.length cap) s) (hr : s.ids.Pairwise (· < ·)) (hi : i < s.ids.length) (o : Int) :
    RStep w (w.setCell ⟨g, i * 2 + 1, none⟩ (.int .u64 o)) p (.slice (some ⟨g, 0, none⟩) s.ids.length cap) (s.setOwn s.ids[i] o) := by
  have hgp : g ≠ p := fun e => h.2.2 (by rw [← e]; rfl)
  obtain ⟨f1, f2, f3, f4⟩ := setOwn_fields s s.ids[i] o
  have hl : i < s.msgs.length := by rw [msgs_len]; exact hi
  have e : s.msgs[i] = s.msg s.ids[i] := by simp [QS.msgs]
  refine ⟨_, ⟨?_, ?_, h.2.2⟩, Upd.set (S := RefS p (.slice (some ⟨g, 0, none⟩) s.ids.length cap)) (p := ⟨g, i * 2 + 1, none⟩) (.inr rfl) _, fun k hk => .inl hk⟩
  · rw [f2, f3, f4]; exact h.1.other _ _ (fun e => hgp e.symm)
  · rw [msgs_set s hr hi o]
    exact Own.set msgEnc_len h.2.1 i hl 1 _ _ (by omega) (by rw [e]; rfl)

theorem find_yes {L : List Int} (hr : L.Pairwise (· < ·)) {id : Int} (h : id ∈ L) : ∃ i, ∃ hi : i < L.length, L[i] = id ∧ findI L id = some i := by
  obtain ⟨i, hi, rfl⟩ := List.getElem_of_mem h
  refine ⟨i, hi, rfl, ?_⟩
  unfold findI
  rw [List.findIdx?_eq_some_iff_getElem]
  refine ⟨hi, by simp, fun j hj => ?_⟩
  have := List.pairwise_iff_getElem.1 hr j i (by omega) hi hj
  simp only [beq_iff_eq]; omega
theorem find_no {L : List Int} {id : Int} (h : id ∉ L) : findI L id = none := by
  unfold findI
  rw [List.findIdx?_eq_none_iff]
  intro x hx
  exact beq_eq_false_iff_ne.2 (fun e => h (e ▸ hx))

def QS.passR (s : QS) (id f o : Int) : Int × QS := if id ∈ s.ids then (if (s.own id).getD 0 = f then (0, s.setOwn id o) else (9, s)) else (7, s)

set_option maxHeartbeats 1600000 in
theorem ref_pass (w : World) (p : Nat) (v : Value) (s : QS) (id f o : Int) (h : RefQ w p v s) (ho : QOk s) (hL : s.ids.length ≤ 1000000) :
    Calls Try.prog 41 #[.pointer (some ⟨p, 0, none⟩), .int .u64 id, .int .u64 f, .int .u64 o] w fun e w' => e = .returned (.int .i64 (s.passR id f o).1) ∧ RStep w w' p v (s.passR id f o).2 := by
  have hf := ref_find w p v s id h
  unfold QS.passR
  by_cases hi : id ∈ s.ids
  · rw [if_pos hi]
    obtain ⟨i, hil, rfl, hfi⟩ := find_yes ho.rise hi
    rw [hfi] at hf
    obtain ⟨g, cap, rfl, -, -⟩ := h.2.1.shape (fun e => by have := msgs_len s; rw [e] at this; simp at this; omega)
    rw [msgs_len] at h ⊢
    obtain ⟨d0, d1⟩ := msg_cells (by have := h.slc; exact this) hil
    have c1 := h.c1
    have f1 := Own.frozen h.2.1 (i * 2 + 1)
    have hst := Lib.hid (ref_set h ho.rise hil o)
    clear hi hfi d0
    simp only [Nat.zero_add, idxOf] at d1 hf
    by_cases hq : (s.own s.ids[i]).getD 0 = f
    · rw [if_pos hq]
      have hqb : ((s.own s.ids[i]).getD 0 != f) = false := by rw [hq]; simp
      have hq' := Lib.hid hq; clear hq
      go_enter Try.func41, Try.ntmps41
      go_wp2_with (first | (go_at_call 19; refine hf.mono ?_; clear hf; rintro e w' ⟨rfl, rfl⟩))
      go_ret
      exact ⟨rfl, hst.out⟩
    · rw [if_neg hq]
      have hqb : ((s.own s.ids[i]).getD 0 != f) = true := by simpa using hq
      have hq' := Lib.hid hq; clear hq
      go_enter Try.func41, Try.ntmps41
      go_wp2_with (first | (go_at_call 19; refine hf.mono ?_; clear hf; rintro e w' ⟨rfl, rfl⟩))
      go_ret
      exact ⟨rfl, RStep.refl h⟩
  · rw [if_neg hi]
    rw [find_no hi] at hf
    simp only [idxOf] at hf
    clear hi
    go_enter Try.func41, Try.ntmps41
    go_wp2_with (first | (go_at_call 19; refine hf.mono ?_; clear hf; rintro e w' ⟨rfl, rfl⟩))
    go_ret
    exact ⟨rfl, RStep.refl h⟩

end Go.Proofs.Ytnmphchlephpbaa
