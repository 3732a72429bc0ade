/- The law AssocRuns of chapter 18. Conditions: the calls read as calls. Written by gen_aruns.py. -/
import Derived.Test.YtfjpdikaodojhaaAssocY
import Derived.Test.YtfjpdikaodojhaaAssocW
namespace Go.Proofs.Ytfjpdikaodojhaa
open Go.RowKit
set_option linter.unusedVariables false

noncomputable def leaveF (L : List Asc) (s : Int) : List Asc × Int := (if mayN L s (0, ⟨#[120]⟩, ⟨#[]⟩) = 0 then L.filter (fun a => a.1 != s) else [], mayN L s (0, ⟨#[120]⟩, ⟨#[]⟩))
noncomputable def clearF (L : List Asc) (x : Xid) : List Asc × Int := (if mayN L 1 x = 0 then L.filter (fun a => a.2.1 != x) else [], mayN L 1 x)
def Good (L : List Asc) (p : List Asc × Int) : Prop := p.1.length ≤ L.length + 1 ∧ (p.2 = 0 → RowA p.1)
theorem good_start (L : List Asc) (s : Int) (x : Xid) : Good L (startF L s x) := ⟨start_len _ _ _, fun h => by
  by_cases hm : mayN L s x = 0
  · obtain ⟨h1, h2, h3⟩ := may_zero hm
    rcases start_ok h1 h2 h3 with ⟨A, e, hr, _⟩ | ⟨A, c, hc, e⟩
    · rw [e]; exact hr
    · rw [e] at h; exact absurd h hc
  · unfold startF at h; rw [if_neg hm] at h; exact absurd h hm⟩
theorem good_suspend (L : List Asc) (s : Int) (x : Xid) : Good L (suspendF L s x) := ⟨suspend_len _ _ _, fun h => by
  by_cases hm : mayN L s x = 0
  · obtain ⟨h1, h2, h3⟩ := may_zero hm
    rcases susp_ok h1 h2 h3 with ⟨A, e, hr, _⟩ | ⟨A, c, hc, e⟩
    · rw [e]; exact hr
    · rw [e] at h; exact absurd h hc
  · unfold suspendF at h; rw [if_neg hm] at h; exact absurd h hm⟩
theorem row_resume {L : List Asc} {k : Nat} (h : RowA L) (hk : k < L.length) (ha : actA L L[k].1 = none) : RowA (L.set k (L[k].susp false)) := by
  have hac := actA_not h ha
  have key : ∀ i, (hi : i < L.length) → (hi2 : i < (L.set k (L[k].susp false)).length) → keyA (L.set k (L[k].susp false))[i] = keyA L[i] ∧ (i ≠ k → (L.set k (L[k].susp false))[i] = L[i]) := by
    intro i hi hi2
    rw [List.getElem_set]
    split
    · rename_i e; subst e; exact ⟨rfl, fun h => absurd rfl h⟩
    · exact ⟨rfl, fun _ => rfl⟩
  refine ⟨fun a ha => ?_, ?_⟩
  · obtain ⟨i, hi, rfl⟩ := List.getElem_of_mem ha
    have hi' : i < L.length := by simpa using hi
    have hkey := (key i hi' hi).1
    unfold keyA at hkey
    simp only [Prod.mk.injEq] at hkey
    rw [hkey.1, hkey.2]; exact h.1 _ (List.getElem_mem hi')
  · rw [List.pairwise_iff_getElem]
    intro i j hi hj hij
    have hi' : i < L.length := by simpa using hi
    have hj' : j < L.length := by simpa using hj
    obtain ⟨a1, a2⟩ := key i hi' hi
    obtain ⟨b1, b2⟩ := key j hj' hj
    have hR := List.pairwise_iff_getElem.1 h.2 i j hi' hj' hij
    refine ⟨by unfold cmpA; rw [a1, b1]; exact hR.1, fun he => ?_⟩
    have a1' := a1; have b1' := b1
    unfold keyA at a1' b1'
    simp only [Prod.mk.injEq] at a1' b1'
    have hes : L[i].1 = L[j].1 := by rw [← a1'.1, ← b1'.1]; exact he
    by_cases hik : i = k
    · subst hik
      right
      rw [b2 (by omega)]
      exact hac _ (List.getElem_mem hj') hes.symm
    · by_cases hjk : j = k
      · left
        rw [a2 hik]
        subst hjk; exact hac _ (List.getElem_mem hi') hes
      · rw [a2 hik, b2 hjk]; exact hR.2 hes
theorem good_resume (L : List Asc) (s : Int) (x : Xid) : Good L (resumeF L s x) := ⟨resume_len _ _ _, fun h => by
  by_cases hm : mayN L s x = 0
  · obtain ⟨h1, h2, h3⟩ := may_zero hm
    unfold resumeF at h ⊢
    rw [if_pos hm] at h ⊢
    by_cases ha : (actA L s).isSome = true
    · rw [if_pos ha] at h; simp at h
    · rw [if_neg ha] at h ⊢
      rcases Classical.em (Mem L s x) with hq | hq
      · obtain ⟨k, hk, he⟩ := hq
        rw [idx_yes h1.rises hk he] at h ⊢
        simp only
        rw [suspA_eq hk]
        have hks : L[k].1 = s := congrArg Prod.fst he
        exact row_resume h1 hk (by rw [hks]; simpa using ha)
      · rw [idx_no hq] at h; simp at h
  · unfold resumeF at h; rw [if_neg hm] at h; exact absurd h hm⟩
theorem good_end (L : List Asc) (s : Int) (x : Xid) : Good L (endF L s x) := ⟨end_len _ _ _, fun h => by
  by_cases hm : mayN L s x = 0
  · obtain ⟨h1, h2, h3⟩ := may_zero hm
    unfold endF at h ⊢
    rw [if_pos hm] at h ⊢
    rcases Classical.em (Mem L s x) with hq | hq
    · obtain ⟨k, hk, he⟩ := hq
      rw [idx_yes h1.rises hk he]
      exact h1.sub (List.eraseIdx_sublist _ _)
    · rw [idx_no hq] at h; simp at h
  · unfold endF at h; rw [if_neg hm] at h; exact absurd h hm⟩
theorem good_leave (L : List Asc) (s : Int) : Good L (leaveF L s) := ⟨by
  unfold leaveF; simp only; split
  · have := List.length_filter_le (fun a : Asc => a.1 != s) L; omega
  · simp, fun h => by
  unfold leaveF at h ⊢
  simp only at h ⊢
  rw [if_pos h]
  exact row_filter (may_zero h).1 _⟩
theorem good_clear (L : List Asc) (x : Xid) : Good L (clearF L x) := ⟨by
  unfold clearF; simp only; split
  · have := List.length_filter_le (fun a : Asc => a.2.1 != x) L; omega
  · simp, fun h => by
  unfold clearF at h ⊢
  simp only at h ⊢
  rw [if_pos h]
  exact row_filter (may_zero h).1 _⟩

/-- A call on a row: what, whose, which. -/
abbrev RCall := Int × Int × Xid
def rcEnc (c : RCall) : List Value := [.int .u8 c.1, .int .u64 c.2.1, .int .u32 c.2.2.1, .string c.2.2.2.1, .string c.2.2.2.2]
theorem rcEnc_len (p : RCall) : (rcEnc p).length = 5 := rfl
theorem rc_cells {w : World} {g off n cap k : Nat} {L : List RCall} (h : Slc rcEnc 5 w (.slice (some ⟨g, off, none⟩) n cap) L) (hk : k < L.length) :
    w.cell? ⟨g, off + k * 5, none⟩ = some (.int .u8 L[k].1) ∧ w.cell? ⟨g, off + k * 5 + 1, none⟩ = some (.int .u64 L[k].2.1) ∧ w.cell? ⟨g, off + k * 5 + 2, none⟩ = some (.int .u32 L[k].2.2.1) ∧ w.cell? ⟨g, off + k * 5 + 3, none⟩ = some (.string L[k].2.2.2.1) ∧ w.cell? ⟨g, off + k * 5 + 4, none⟩ = some (.string L[k].2.2.2.2) :=
  ⟨h.get k hk 0 _ rfl, h.get k hk 1 _ rfl, h.get k hk 2 _ rfl, h.get k hk 3 _ rfl, h.get k hk 4 _ rfl⟩

set_option maxRecDepth 100000 in
set_option maxHeartbeats 8000000 in
theorem assocRuns_any (w : World) (v : Value) (K : List RCall) (hs : Slc rcEnc 5 w v K) (hwf : ∀ c ∈ K, 0 ≤ c.1 ∧ c.1 ≤ 255) :
    Calls Try.prog 7 #[v] w fun e w' => e = .returned (.bool true) ∧ Below w.heap.size w w' := by
  obtain ⟨a, cap, rfl, hm⟩ := hs.len
  unfold maxLen at hm
  go_enter Try.func7, Try.ntmps7
  go_wp2
  go_loopw [3, 4, 5] (fun s3 s4 s5 wr => ∃ k : Nat, ∃ L : List Asc, k ≤ K.length ∧ k ≤ 60 ∧ s5 = .int .i64 k ∧ L.length ≤ k ∧ Slc ascEnc 5 wr s3 L ∧ Slc ascEnc 5 wr s4 L ∧ Below w.heap.size w wr) (fun _ _ s5 _ => K.length - (intOf s5).toNat)
  case atStart => exact ⟨0, [], by omega, by omega, rfl, by simp, Slc.nil _ _ _, Slc.nil _ _ _, Below.refl _ _⟩
  case round =>
    obtain ⟨k, L, hk, hk60, rfl, hLk, ha0, hb0, hT0⟩ := hrel
    have hT0s := hT0.size
    have hL : L.length ≤ 1000000 := by omega
    by_cases hend : k < K.length ∧ k < 60
    rotate_left 1
    · by_cases hlt : k < K.length
      · have hge : ¬ k < 60 := fun h => hend ⟨hlt, h⟩
        clear hend
        go_wp2_with (go_at_call 8; refine (head_any _).mono ?_; rintro e w1 ⟨rfl, hB1⟩)
        go_ret
        exact ⟨rfl, hT0.trans (hB1.mono hT0s)⟩
      · clear hend
        go_wp2_with (go_at_call 8; refine (head_any _).mono ?_; rintro e w1 ⟨rfl, hB1⟩)
        go_ret
        exact ⟨rfl, hT0.trans (hB1.mono hT0s)⟩
    obtain ⟨hlt, hlt60⟩ := hend
    have hsr := hs.pure hT0
    obtain ⟨g, off, rfl⟩ := hsr.addr hlt
    obtain ⟨c0, c1, c2, c3, c4⟩ := rc_cells hsr hlt
    have hw0 := hwf K[k] (List.getElem_mem hlt)
    obtain ⟨x, hx⟩ : ∃ x, x = K[k] := ⟨_, rfl⟩
    rw [← hx] at c0 c1 c2 c3 c4 hw0
    clear hx
    obtain ⟨wh, s, yf, yg, yb⟩ := x
    simp only at c0 c1 c2 c3 c4 hw0
    obtain ⟨wh0, wh1⟩ := hw0
    have hm6 : wh % 6 = 0 ∨ wh % 6 = 1 ∨ wh % 6 = 2 ∨ wh % 6 = 3 ∨ wh % 6 = 4 ∨ wh % 6 = 5 := by omega
    have bx0 := Blk.new wr [.int .u8 wh, .int .u64 s, .int .u32 yf, .string yg, .string yb] 52
    have hac := Lib.hid (fun (u : World) (v : Value) (M : List Asc) (h : Slc ascEnc 5 u v M) (hM : M.length ≤ 1000000) => active_any u v M s h hM)
    have hra := Lib.hid (fun (u : World) (v : Value) (M : List Asc) (h : Slc ascEnc 5 u v M) (hM : M.length ≤ 1000000) => ractive_any u v M s h hM)
    have hT0 := hT0.alloc hT0s (.cells #[.int .u8 wh, .int .u64 s, .int .u32 yf, .string yg, .string yb] 52)
    have ha0 := ha0.pure ((Below.refl _ _).alloc (Nat.le_refl _) (.cells #[.int .u8 wh, .int .u64 s, .int .u32 yf, .string yg, .string yb] 52))
    have hb0 := hb0.pure ((Below.refl _ _).alloc (Nat.le_refl _) (.cells #[.int .u8 wh, .int .u64 s, .int .u32 yf, .string yg, .string yb] 52))
    have bx_c0 := bx0.at 0 rfl; have bx_c1 := bx0.at 1 rfl; have bx_c2 := bx0.at 2 rfl; have bx_c3 := bx0.at 3 rfl; have bx_c4 := bx0.at 4 rfl
    rcases hm6 with hm6 | hm6 | hm6 | hm6 | hm6 | hm6
    · as_aux_lemma =>
      have hdum := True.intro
      have hj0 : (wh % 6 == 0) = true := by rw [hm6]; rfl
      clear hm6 hdum
      have hgo := good_start L s (yf, yg, yb)
      obtain ⟨⟨M, c⟩, hMc⟩ : ∃ p, p = startF L s (yf, yg, yb) := ⟨_, rfl⟩
      have hp := Lib.hid (fun (u : World) (v : Value) (h : Slc ascEnc 5 u v L) => show Calls Try.prog 23 #[v, .int .u64 s, .agg #[.int .u32 yf, .string yg, .string yb]] u (TurnPost u (M, c)) from by rw [hMc]; exact start_any u v L s (yf, yg, yb) h hL)
      have hq := Lib.hid (fun (u : World) (v : Value) (h : Slc ascEnc 5 u v L) => show Calls Try.prog 24 #[v, .int .u64 s, .agg #[.int .u32 yf, .string yg, .string yb]] u (TurnPost u (M, c)) from by rw [hMc]; exact rstart_any u v L s (yf, yg, yb) h hL)
      rw [← hMc] at hgo
      clear hMc
      obtain ⟨hMl0, hrow⟩ := hgo
      simp only at hMl0 hrow
      have hMl : M.length ≤ 1000000 := by omega
      by_cases hc0 : c = 0
      · as_aux_lemma =>
        subst hc0
        have hck := Lib.hid (fun (u : World) (v : Value) (h : Slc ascEnc 5 u v M) => show Calls Try.prog 14 #[v] u (fun e w' => e = .returned (.int .i64 0) ∧ Below u.heap.size u w') from by have := check_any u v M h hMl; rw [rowE_yes (hrow rfl)] at this; exact this)
        clear hrow
        obtain ⟨⟨xf, xg, xb⟩, hxx⟩ : ∃ x, x = optX (actA M s) := ⟨_, rfl⟩
        obtain ⟨is, his⟩ : ∃ is, is = (actA M s).isSome := ⟨_, rfl⟩
        have hpa := Lib.hid (fun (u : World) (v : Value) (h : Slc ascEnc 5 u v M) => show Calls Try.prog 9 #[v, .int .u64 s] u (fun e w' => e = .returned (.tuple #[.agg #[.int .u32 xf, .string xg, .string xb], .bool is]) ∧ Below u.heap.size u w') from by have := hac.out u v M h hMl; rw [← hxx, ← his] at this; exact this)
        have hqa := Lib.hid (fun (u : World) (v : Value) (h : Slc ascEnc 5 u v M) => show Calls Try.prog 10 #[v, .int .u64 s] u (fun e w' => e = .returned (.tuple #[.agg #[.int .u32 xf, .string xg, .string xb], .bool is]) ∧ Below u.heap.size u w') from by have := hra.out u v M h hMl; rw [← hxx, ← his] at this; exact this)
        clear hxx his
        have qE := fun (u : World) => xid_neq u xf xf xg xb xg xb
        simp only [show ((xf, xg, xb) != (xf, xg, xb)) = false by rw [bne, xid_self (xf, xg, xb)]; rfl] at qE
        go_wp2_with (first | (go_at_call 23; (with_reducible refine (hp.out _ _ ha0).mono ?_); rintro e w1 ⟨r1, rfl, hO1, hB1⟩; have hT1 := hT0.trans (hB1.mono hT0.size); have hc1 := hO1.slc ascEnc_len; have ha1 := ha0.pure hB1; have hb1 := hb0.pure hB1; have bx1 := bx0.pure hB1; clear bx_c0 bx_c1 bx_c2 bx_c3 bx_c4; have bx_c0 := bx1.at 0 rfl; have bx_c1 := bx1.at 1 rfl; have bx_c2 := bx1.at 2 rfl; have bx_c3 := bx1.at 3 rfl; have bx_c4 := bx1.at 4 rfl) | (go_at_call 24; (with_reducible refine (hq.out _ _ hb1).mono ?_); rintro e w2 ⟨r2, rfl, hO2, hB2⟩; have hT2 := hT1.trans (hB2.mono hT1.size); have hd2 := hO2.slc ascEnc_len; have ha2 := ha1.pure hB2; have hb2 := hb1.pure hB2; have hc2 := hc1.pure hB2; have bx2 := bx1.pure hB2; clear bx_c0 bx_c1 bx_c2 bx_c3 bx_c4; have bx_c0 := bx2.at 0 rfl; have bx_c1 := bx2.at 1 rfl; have bx_c2 := bx2.at 2 rfl; have bx_c3 := bx2.at 3 rfl; have bx_c4 := bx2.at 4 rfl) | (go_at_call 22; (with_reducible refine (same_eq _ _ _ M hc2 hd2 hMl).mono ?_); rintro e w3 ⟨rfl, hB3⟩; have hT3 := hT2.trans (hB3.mono hT2.size); have ha3 := ha2.pure hB3; have hb3 := hb2.pure hB3; have hc3 := hc2.pure hB3; have hd3 := hd2.pure hB3; have bx3 := bx2.pure hB3; clear bx_c0 bx_c1 bx_c2 bx_c3 bx_c4; have bx_c0 := bx3.at 0 rfl; have bx_c1 := bx3.at 1 rfl; have bx_c2 := bx3.at 2 rfl; have bx_c3 := bx3.at 3 rfl; have bx_c4 := bx3.at 4 rfl) | (go_at_call 14; (with_reducible refine (hck.out _ _ hc3).mono ?_); rintro e w4 ⟨rfl, hB4⟩; have hT4 := hT3.trans (hB4.mono hT3.size); have ha4 := ha3.pure hB4; have hb4 := hb3.pure hB4; have hc4 := hc3.pure hB4; have hd4 := hd3.pure hB4; have bx4 := bx3.pure hB4; clear bx_c0 bx_c1 bx_c2 bx_c3 bx_c4; have bx_c0 := bx4.at 0 rfl; have bx_c1 := bx4.at 1 rfl; have bx_c2 := bx4.at 2 rfl; have bx_c3 := bx4.at 3 rfl; have bx_c4 := bx4.at 4 rfl) | (go_at_call 9; (with_reducible refine (hpa.out _ _ hc4).mono ?_); rintro e w5 ⟨rfl, hB5⟩; have hT5 := hT4.trans (hB5.mono hT4.size); have ha5 := ha4.pure hB5; have hb5 := hb4.pure hB5; have hc5 := hc4.pure hB5; have hd5 := hd4.pure hB5; have bx5 := bx4.pure hB5; clear bx_c0 bx_c1 bx_c2 bx_c3 bx_c4; have hS_5 := hT5.size; have hT5 := hT5.alloc hS_5 (.cells #[.int .u32 xf, .string xg, .string xb] 26); have ha5 := ha5.pure ((Below.refl _ _).alloc (Nat.le_refl _) (.cells #[.int .u32 xf, .string xg, .string xb] 26)); have hb5 := hb5.pure ((Below.refl _ _).alloc (Nat.le_refl _) (.cells #[.int .u32 xf, .string xg, .string xb] 26)); have hc5 := hc5.pure ((Below.refl _ _).alloc (Nat.le_refl _) (.cells #[.int .u32 xf, .string xg, .string xb] 26)); have hd5 := hd5.pure ((Below.refl _ _).alloc (Nat.le_refl _) (.cells #[.int .u32 xf, .string xg, .string xb] 26)); have bx5 := bx5.alloc (.cells #[.int .u32 xf, .string xg, .string xb] 26); have by5 := Blk.new w5 [.int .u32 xf, .string xg, .string xb] 26; have bx_c0 := bx5.at 0 rfl; have bx_c1 := bx5.at 1 rfl; have bx_c2 := bx5.at 2 rfl; have bx_c3 := bx5.at 3 rfl; have bx_c4 := bx5.at 4 rfl; have by_c0 := by5.at 0 rfl; have by_c1 := by5.at 1 rfl; have by_c2 := by5.at 2 rfl) | (go_at_call 10; (with_reducible refine (hqa.out _ _ hd5).mono ?_); rintro e w6 ⟨rfl, hB6⟩; have hT6 := hT5.trans (hB6.mono hT5.size); have ha6 := ha5.pure hB6; have hb6 := hb5.pure hB6; have hc6 := hc5.pure hB6; have hd6 := hd5.pure hB6; have bx6 := bx5.pure hB6; have by6 := by5.pure hB6; clear bx_c0 bx_c1 bx_c2 bx_c3 bx_c4 by_c0 by_c1 by_c2; have hS_6 := hT6.size; have hT6 := hT6.alloc hS_6 (.cells #[.int .u32 xf, .string xg, .string xb] 26); have ha6 := ha6.pure ((Below.refl _ _).alloc (Nat.le_refl _) (.cells #[.int .u32 xf, .string xg, .string xb] 26)); have hb6 := hb6.pure ((Below.refl _ _).alloc (Nat.le_refl _) (.cells #[.int .u32 xf, .string xg, .string xb] 26)); have hc6 := hc6.pure ((Below.refl _ _).alloc (Nat.le_refl _) (.cells #[.int .u32 xf, .string xg, .string xb] 26)); have hd6 := hd6.pure ((Below.refl _ _).alloc (Nat.le_refl _) (.cells #[.int .u32 xf, .string xg, .string xb] 26)); have bx6 := bx6.alloc (.cells #[.int .u32 xf, .string xg, .string xb] 26); have by6 := by6.alloc (.cells #[.int .u32 xf, .string xg, .string xb] 26); have bz6 := Blk.new w6 [.int .u32 xf, .string xg, .string xb] 26; have bx_c0 := bx6.at 0 rfl; have bx_c1 := bx6.at 1 rfl; have bx_c2 := bx6.at 2 rfl; have bx_c3 := bx6.at 3 rfl; have bx_c4 := bx6.at 4 rfl; have by_c0 := by6.at 0 rfl; have by_c1 := by6.at 1 rfl; have by_c2 := by6.at 2 rfl; have bz_c0 := bz6.at 0 rfl; have bz_c1 := bz6.at 1 rfl; have bz_c2 := bz6.at 2 rfl))
        go_roundw
        case rel => exact ⟨k + 1, M, by omega, by omega, by go_num, by omega, hc6, hd6, hT6⟩
        case measure => simp [intOf]; omega
      · as_aux_lemma =>
        have hcb : (c == 0) = false := beq_eq_false_iff_ne.2 hc0
        clear hrow hc0
        obtain ⟨⟨xf, xg, xb⟩, hxx⟩ : ∃ x, x = optX (actA L s) := ⟨_, rfl⟩
        obtain ⟨is, his⟩ : ∃ is, is = (actA L s).isSome := ⟨_, rfl⟩
        have hpa := Lib.hid (fun (u : World) (v : Value) (h : Slc ascEnc 5 u v L) => show Calls Try.prog 9 #[v, .int .u64 s] u (fun e w' => e = .returned (.tuple #[.agg #[.int .u32 xf, .string xg, .string xb], .bool is]) ∧ Below u.heap.size u w') from by have := hac.out u v L h hL; rw [← hxx, ← his] at this; exact this)
        have hqa := Lib.hid (fun (u : World) (v : Value) (h : Slc ascEnc 5 u v L) => show Calls Try.prog 10 #[v, .int .u64 s] u (fun e w' => e = .returned (.tuple #[.agg #[.int .u32 xf, .string xg, .string xb], .bool is]) ∧ Below u.heap.size u w') from by have := hra.out u v L h hL; rw [← hxx, ← his] at this; exact this)
        clear hxx his
        have qE := fun (u : World) => xid_neq u xf xf xg xb xg xb
        simp only [show ((xf, xg, xb) != (xf, xg, xb)) = false by rw [bne, xid_self (xf, xg, xb)]; rfl] at qE
        go_wp2_with (first | (go_at_call 23; (with_reducible refine (hp.out _ _ ha0).mono ?_); rintro e w1 ⟨r1, rfl, hO1, hB1⟩; have hT1 := hT0.trans (hB1.mono hT0.size); have hc1 := hO1.slc ascEnc_len; have ha1 := ha0.pure hB1; have hb1 := hb0.pure hB1; have bx1 := bx0.pure hB1; clear bx_c0 bx_c1 bx_c2 bx_c3 bx_c4; have bx_c0 := bx1.at 0 rfl; have bx_c1 := bx1.at 1 rfl; have bx_c2 := bx1.at 2 rfl; have bx_c3 := bx1.at 3 rfl; have bx_c4 := bx1.at 4 rfl) | (go_at_call 24; (with_reducible refine (hq.out _ _ hb1).mono ?_); rintro e w2 ⟨r2, rfl, hO2, hB2⟩; have hT2 := hT1.trans (hB2.mono hT1.size); have hd2 := hO2.slc ascEnc_len; have ha2 := ha1.pure hB2; have hb2 := hb1.pure hB2; have hc2 := hc1.pure hB2; have bx2 := bx1.pure hB2; clear bx_c0 bx_c1 bx_c2 bx_c3 bx_c4; have bx_c0 := bx2.at 0 rfl; have bx_c1 := bx2.at 1 rfl; have bx_c2 := bx2.at 2 rfl; have bx_c3 := bx2.at 3 rfl; have bx_c4 := bx2.at 4 rfl) | (go_at_call 22; (with_reducible refine (same_eq _ _ _ M hc2 hd2 hMl).mono ?_); rintro e w3 ⟨rfl, hB3⟩; have hT3 := hT2.trans (hB3.mono hT2.size); have ha3 := ha2.pure hB3; have hb3 := hb2.pure hB3; have hc3 := hc2.pure hB3; have hd3 := hd2.pure hB3; have bx3 := bx2.pure hB3; clear bx_c0 bx_c1 bx_c2 bx_c3 bx_c4; have bx_c0 := bx3.at 0 rfl; have bx_c1 := bx3.at 1 rfl; have bx_c2 := bx3.at 2 rfl; have bx_c3 := bx3.at 3 rfl; have bx_c4 := bx3.at 4 rfl) | (go_at_call 9; (with_reducible refine (hpa.out _ _ ha3).mono ?_); rintro e w4 ⟨rfl, hB4⟩; have hT4 := hT3.trans (hB4.mono hT3.size); have ha4 := ha3.pure hB4; have hb4 := hb3.pure hB4; have hc4 := hc3.pure hB4; have hd4 := hd3.pure hB4; have bx4 := bx3.pure hB4; clear bx_c0 bx_c1 bx_c2 bx_c3 bx_c4; have hS_4 := hT4.size; have hT4 := hT4.alloc hS_4 (.cells #[.int .u32 xf, .string xg, .string xb] 26); have ha4 := ha4.pure ((Below.refl _ _).alloc (Nat.le_refl _) (.cells #[.int .u32 xf, .string xg, .string xb] 26)); have hb4 := hb4.pure ((Below.refl _ _).alloc (Nat.le_refl _) (.cells #[.int .u32 xf, .string xg, .string xb] 26)); have hc4 := hc4.pure ((Below.refl _ _).alloc (Nat.le_refl _) (.cells #[.int .u32 xf, .string xg, .string xb] 26)); have hd4 := hd4.pure ((Below.refl _ _).alloc (Nat.le_refl _) (.cells #[.int .u32 xf, .string xg, .string xb] 26)); have bx4 := bx4.alloc (.cells #[.int .u32 xf, .string xg, .string xb] 26); have by4 := Blk.new w4 [.int .u32 xf, .string xg, .string xb] 26; have bx_c0 := bx4.at 0 rfl; have bx_c1 := bx4.at 1 rfl; have bx_c2 := bx4.at 2 rfl; have bx_c3 := bx4.at 3 rfl; have bx_c4 := bx4.at 4 rfl; have by_c0 := by4.at 0 rfl; have by_c1 := by4.at 1 rfl; have by_c2 := by4.at 2 rfl) | (go_at_call 10; (with_reducible refine (hqa.out _ _ hb4).mono ?_); rintro e w5 ⟨rfl, hB5⟩; have hT5 := hT4.trans (hB5.mono hT4.size); have ha5 := ha4.pure hB5; have hb5 := hb4.pure hB5; have hc5 := hc4.pure hB5; have hd5 := hd4.pure hB5; have bx5 := bx4.pure hB5; have by5 := by4.pure hB5; clear bx_c0 bx_c1 bx_c2 bx_c3 bx_c4 by_c0 by_c1 by_c2; have hS_5 := hT5.size; have hT5 := hT5.alloc hS_5 (.cells #[.int .u32 xf, .string xg, .string xb] 26); have ha5 := ha5.pure ((Below.refl _ _).alloc (Nat.le_refl _) (.cells #[.int .u32 xf, .string xg, .string xb] 26)); have hb5 := hb5.pure ((Below.refl _ _).alloc (Nat.le_refl _) (.cells #[.int .u32 xf, .string xg, .string xb] 26)); have hc5 := hc5.pure ((Below.refl _ _).alloc (Nat.le_refl _) (.cells #[.int .u32 xf, .string xg, .string xb] 26)); have hd5 := hd5.pure ((Below.refl _ _).alloc (Nat.le_refl _) (.cells #[.int .u32 xf, .string xg, .string xb] 26)); have bx5 := bx5.alloc (.cells #[.int .u32 xf, .string xg, .string xb] 26); have by5 := by5.alloc (.cells #[.int .u32 xf, .string xg, .string xb] 26); have bz5 := Blk.new w5 [.int .u32 xf, .string xg, .string xb] 26; have bx_c0 := bx5.at 0 rfl; have bx_c1 := bx5.at 1 rfl; have bx_c2 := bx5.at 2 rfl; have bx_c3 := bx5.at 3 rfl; have bx_c4 := bx5.at 4 rfl; have by_c0 := by5.at 0 rfl; have by_c1 := by5.at 1 rfl; have by_c2 := by5.at 2 rfl; have bz_c0 := bz5.at 0 rfl; have bz_c1 := bz5.at 1 rfl; have bz_c2 := bz5.at 2 rfl))
        go_roundw
        case rel => exact ⟨k + 1, L, by omega, by omega, by go_num, by omega, ha5, hb5, hT5⟩
        case measure => simp [intOf]; omega
    · as_aux_lemma =>
      have hdum := True.intro
      have hj0 : (wh % 6 == 0) = false := by rw [hm6]; rfl
      have hj1 : (wh % 6 == 1) = true := by rw [hm6]; rfl
      clear hm6 hdum
      have hgo := good_resume L s (yf, yg, yb)
      obtain ⟨⟨M, c⟩, hMc⟩ : ∃ p, p = resumeF L s (yf, yg, yb) := ⟨_, rfl⟩
      have hp := Lib.hid (fun (u : World) (v : Value) (h : Slc ascEnc 5 u v L) => show Calls Try.prog 25 #[v, .int .u64 s, .agg #[.int .u32 yf, .string yg, .string yb]] u (TurnPost u (M, c)) from by rw [hMc]; exact resume_any u v L s (yf, yg, yb) h hL)
      have hq := Lib.hid (fun (u : World) (v : Value) (h : Slc ascEnc 5 u v L) => show Calls Try.prog 26 #[v, .int .u64 s, .agg #[.int .u32 yf, .string yg, .string yb]] u (TurnPost u (M, c)) from by rw [hMc]; exact rresume_any u v L s (yf, yg, yb) h hL)
      rw [← hMc] at hgo
      clear hMc
      obtain ⟨hMl0, hrow⟩ := hgo
      simp only at hMl0 hrow
      have hMl : M.length ≤ 1000000 := by omega
      by_cases hc0 : c = 0
      · as_aux_lemma =>
        subst hc0
        have hck := Lib.hid (fun (u : World) (v : Value) (h : Slc ascEnc 5 u v M) => show Calls Try.prog 14 #[v] u (fun e w' => e = .returned (.int .i64 0) ∧ Below u.heap.size u w') from by have := check_any u v M h hMl; rw [rowE_yes (hrow rfl)] at this; exact this)
        clear hrow
        obtain ⟨⟨xf, xg, xb⟩, hxx⟩ : ∃ x, x = optX (actA M s) := ⟨_, rfl⟩
        obtain ⟨is, his⟩ : ∃ is, is = (actA M s).isSome := ⟨_, rfl⟩
        have hpa := Lib.hid (fun (u : World) (v : Value) (h : Slc ascEnc 5 u v M) => show Calls Try.prog 9 #[v, .int .u64 s] u (fun e w' => e = .returned (.tuple #[.agg #[.int .u32 xf, .string xg, .string xb], .bool is]) ∧ Below u.heap.size u w') from by have := hac.out u v M h hMl; rw [← hxx, ← his] at this; exact this)
        have hqa := Lib.hid (fun (u : World) (v : Value) (h : Slc ascEnc 5 u v M) => show Calls Try.prog 10 #[v, .int .u64 s] u (fun e w' => e = .returned (.tuple #[.agg #[.int .u32 xf, .string xg, .string xb], .bool is]) ∧ Below u.heap.size u w') from by have := hra.out u v M h hMl; rw [← hxx, ← his] at this; exact this)
        clear hxx his
        have qE := fun (u : World) => xid_neq u xf xf xg xb xg xb
        simp only [show ((xf, xg, xb) != (xf, xg, xb)) = false by rw [bne, xid_self (xf, xg, xb)]; rfl] at qE
        go_wp2_with (first | (go_at_call 25; (with_reducible refine (hp.out _ _ ha0).mono ?_); rintro e w1 ⟨r1, rfl, hO1, hB1⟩; have hT1 := hT0.trans (hB1.mono hT0.size); have hc1 := hO1.slc ascEnc_len; have ha1 := ha0.pure hB1; have hb1 := hb0.pure hB1; have bx1 := bx0.pure hB1; clear bx_c0 bx_c1 bx_c2 bx_c3 bx_c4; have bx_c0 := bx1.at 0 rfl; have bx_c1 := bx1.at 1 rfl; have bx_c2 := bx1.at 2 rfl; have bx_c3 := bx1.at 3 rfl; have bx_c4 := bx1.at 4 rfl) | (go_at_call 26; (with_reducible refine (hq.out _ _ hb1).mono ?_); rintro e w2 ⟨r2, rfl, hO2, hB2⟩; have hT2 := hT1.trans (hB2.mono hT1.size); have hd2 := hO2.slc ascEnc_len; have ha2 := ha1.pure hB2; have hb2 := hb1.pure hB2; have hc2 := hc1.pure hB2; have bx2 := bx1.pure hB2; clear bx_c0 bx_c1 bx_c2 bx_c3 bx_c4; have bx_c0 := bx2.at 0 rfl; have bx_c1 := bx2.at 1 rfl; have bx_c2 := bx2.at 2 rfl; have bx_c3 := bx2.at 3 rfl; have bx_c4 := bx2.at 4 rfl) | (go_at_call 22; (with_reducible refine (same_eq _ _ _ M hc2 hd2 hMl).mono ?_); rintro e w3 ⟨rfl, hB3⟩; have hT3 := hT2.trans (hB3.mono hT2.size); have ha3 := ha2.pure hB3; have hb3 := hb2.pure hB3; have hc3 := hc2.pure hB3; have hd3 := hd2.pure hB3; have bx3 := bx2.pure hB3; clear bx_c0 bx_c1 bx_c2 bx_c3 bx_c4; have bx_c0 := bx3.at 0 rfl; have bx_c1 := bx3.at 1 rfl; have bx_c2 := bx3.at 2 rfl; have bx_c3 := bx3.at 3 rfl; have bx_c4 := bx3.at 4 rfl) | (go_at_call 14; (with_reducible refine (hck.out _ _ hc3).mono ?_); rintro e w4 ⟨rfl, hB4⟩; have hT4 := hT3.trans (hB4.mono hT3.size); have ha4 := ha3.pure hB4; have hb4 := hb3.pure hB4; have hc4 := hc3.pure hB4; have hd4 := hd3.pure hB4; have bx4 := bx3.pure hB4; clear bx_c0 bx_c1 bx_c2 bx_c3 bx_c4; have bx_c0 := bx4.at 0 rfl; have bx_c1 := bx4.at 1 rfl; have bx_c2 := bx4.at 2 rfl; have bx_c3 := bx4.at 3 rfl; have bx_c4 := bx4.at 4 rfl) | (go_at_call 9; (with_reducible refine (hpa.out _ _ hc4).mono ?_); rintro e w5 ⟨rfl, hB5⟩; have hT5 := hT4.trans (hB5.mono hT4.size); have ha5 := ha4.pure hB5; have hb5 := hb4.pure hB5; have hc5 := hc4.pure hB5; have hd5 := hd4.pure hB5; have bx5 := bx4.pure hB5; clear bx_c0 bx_c1 bx_c2 bx_c3 bx_c4; have hS_5 := hT5.size; have hT5 := hT5.alloc hS_5 (.cells #[.int .u32 xf, .string xg, .string xb] 26); have ha5 := ha5.pure ((Below.refl _ _).alloc (Nat.le_refl _) (.cells #[.int .u32 xf, .string xg, .string xb] 26)); have hb5 := hb5.pure ((Below.refl _ _).alloc (Nat.le_refl _) (.cells #[.int .u32 xf, .string xg, .string xb] 26)); have hc5 := hc5.pure ((Below.refl _ _).alloc (Nat.le_refl _) (.cells #[.int .u32 xf, .string xg, .string xb] 26)); have hd5 := hd5.pure ((Below.refl _ _).alloc (Nat.le_refl _) (.cells #[.int .u32 xf, .string xg, .string xb] 26)); have bx5 := bx5.alloc (.cells #[.int .u32 xf, .string xg, .string xb] 26); have by5 := Blk.new w5 [.int .u32 xf, .string xg, .string xb] 26; have bx_c0 := bx5.at 0 rfl; have bx_c1 := bx5.at 1 rfl; have bx_c2 := bx5.at 2 rfl; have bx_c3 := bx5.at 3 rfl; have bx_c4 := bx5.at 4 rfl; have by_c0 := by5.at 0 rfl; have by_c1 := by5.at 1 rfl; have by_c2 := by5.at 2 rfl) | (go_at_call 10; (with_reducible refine (hqa.out _ _ hd5).mono ?_); rintro e w6 ⟨rfl, hB6⟩; have hT6 := hT5.trans (hB6.mono hT5.size); have ha6 := ha5.pure hB6; have hb6 := hb5.pure hB6; have hc6 := hc5.pure hB6; have hd6 := hd5.pure hB6; have bx6 := bx5.pure hB6; have by6 := by5.pure hB6; clear bx_c0 bx_c1 bx_c2 bx_c3 bx_c4 by_c0 by_c1 by_c2; have hS_6 := hT6.size; have hT6 := hT6.alloc hS_6 (.cells #[.int .u32 xf, .string xg, .string xb] 26); have ha6 := ha6.pure ((Below.refl _ _).alloc (Nat.le_refl _) (.cells #[.int .u32 xf, .string xg, .string xb] 26)); have hb6 := hb6.pure ((Below.refl _ _).alloc (Nat.le_refl _) (.cells #[.int .u32 xf, .string xg, .string xb] 26)); have hc6 := hc6.pure ((Below.refl _ _).alloc (Nat.le_refl _) (.cells #[.int .u32 xf, .string xg, .string xb] 26)); have hd6 := hd6.pure ((Below.refl _ _).alloc (Nat.le_refl _) (.cells #[.int .u32 xf, .string xg, .string xb] 26)); have bx6 := bx6.alloc (.cells #[.int .u32 xf, .string xg, .string xb] 26); have by6 := by6.alloc (.cells #[.int .u32 xf, .string xg, .string xb] 26); have bz6 := Blk.new w6 [.int .u32 xf, .string xg, .string xb] 26; have bx_c0 := bx6.at 0 rfl; have bx_c1 := bx6.at 1 rfl; have bx_c2 := bx6.at 2 rfl; have bx_c3 := bx6.at 3 rfl; have bx_c4 := bx6.at 4 rfl; have by_c0 := by6.at 0 rfl; have by_c1 := by6.at 1 rfl; have by_c2 := by6.at 2 rfl; have bz_c0 := bz6.at 0 rfl; have bz_c1 := bz6.at 1 rfl; have bz_c2 := bz6.at 2 rfl))
        go_roundw
        case rel => exact ⟨k + 1, M, by omega, by omega, by go_num, by omega, hc6, hd6, hT6⟩
        case measure => simp [intOf]; omega
      · as_aux_lemma =>
        have hcb : (c == 0) = false := beq_eq_false_iff_ne.2 hc0
        clear hrow hc0
        obtain ⟨⟨xf, xg, xb⟩, hxx⟩ : ∃ x, x = optX (actA L s) := ⟨_, rfl⟩
        obtain ⟨is, his⟩ : ∃ is, is = (actA L s).isSome := ⟨_, rfl⟩
        have hpa := Lib.hid (fun (u : World) (v : Value) (h : Slc ascEnc 5 u v L) => show Calls Try.prog 9 #[v, .int .u64 s] u (fun e w' => e = .returned (.tuple #[.agg #[.int .u32 xf, .string xg, .string xb], .bool is]) ∧ Below u.heap.size u w') from by have := hac.out u v L h hL; rw [← hxx, ← his] at this; exact this)
        have hqa := Lib.hid (fun (u : World) (v : Value) (h : Slc ascEnc 5 u v L) => show Calls Try.prog 10 #[v, .int .u64 s] u (fun e w' => e = .returned (.tuple #[.agg #[.int .u32 xf, .string xg, .string xb], .bool is]) ∧ Below u.heap.size u w') from by have := hra.out u v L h hL; rw [← hxx, ← his] at this; exact this)
        clear hxx his
        have qE := fun (u : World) => xid_neq u xf xf xg xb xg xb
        simp only [show ((xf, xg, xb) != (xf, xg, xb)) = false by rw [bne, xid_self (xf, xg, xb)]; rfl] at qE
        go_wp2_with (first | (go_at_call 25; (with_reducible refine (hp.out _ _ ha0).mono ?_); rintro e w1 ⟨r1, rfl, hO1, hB1⟩; have hT1 := hT0.trans (hB1.mono hT0.size); have hc1 := hO1.slc ascEnc_len; have ha1 := ha0.pure hB1; have hb1 := hb0.pure hB1; have bx1 := bx0.pure hB1; clear bx_c0 bx_c1 bx_c2 bx_c3 bx_c4; have bx_c0 := bx1.at 0 rfl; have bx_c1 := bx1.at 1 rfl; have bx_c2 := bx1.at 2 rfl; have bx_c3 := bx1.at 3 rfl; have bx_c4 := bx1.at 4 rfl) | (go_at_call 26; (with_reducible refine (hq.out _ _ hb1).mono ?_); rintro e w2 ⟨r2, rfl, hO2, hB2⟩; have hT2 := hT1.trans (hB2.mono hT1.size); have hd2 := hO2.slc ascEnc_len; have ha2 := ha1.pure hB2; have hb2 := hb1.pure hB2; have hc2 := hc1.pure hB2; have bx2 := bx1.pure hB2; clear bx_c0 bx_c1 bx_c2 bx_c3 bx_c4; have bx_c0 := bx2.at 0 rfl; have bx_c1 := bx2.at 1 rfl; have bx_c2 := bx2.at 2 rfl; have bx_c3 := bx2.at 3 rfl; have bx_c4 := bx2.at 4 rfl) | (go_at_call 22; (with_reducible refine (same_eq _ _ _ M hc2 hd2 hMl).mono ?_); rintro e w3 ⟨rfl, hB3⟩; have hT3 := hT2.trans (hB3.mono hT2.size); have ha3 := ha2.pure hB3; have hb3 := hb2.pure hB3; have hc3 := hc2.pure hB3; have hd3 := hd2.pure hB3; have bx3 := bx2.pure hB3; clear bx_c0 bx_c1 bx_c2 bx_c3 bx_c4; have bx_c0 := bx3.at 0 rfl; have bx_c1 := bx3.at 1 rfl; have bx_c2 := bx3.at 2 rfl; have bx_c3 := bx3.at 3 rfl; have bx_c4 := bx3.at 4 rfl) | (go_at_call 9; (with_reducible refine (hpa.out _ _ ha3).mono ?_); rintro e w4 ⟨rfl, hB4⟩; have hT4 := hT3.trans (hB4.mono hT3.size); have ha4 := ha3.pure hB4; have hb4 := hb3.pure hB4; have hc4 := hc3.pure hB4; have hd4 := hd3.pure hB4; have bx4 := bx3.pure hB4; clear bx_c0 bx_c1 bx_c2 bx_c3 bx_c4; have hS_4 := hT4.size; have hT4 := hT4.alloc hS_4 (.cells #[.int .u32 xf, .string xg, .string xb] 26); have ha4 := ha4.pure ((Below.refl _ _).alloc (Nat.le_refl _) (.cells #[.int .u32 xf, .string xg, .string xb] 26)); have hb4 := hb4.pure ((Below.refl _ _).alloc (Nat.le_refl _) (.cells #[.int .u32 xf, .string xg, .string xb] 26)); have hc4 := hc4.pure ((Below.refl _ _).alloc (Nat.le_refl _) (.cells #[.int .u32 xf, .string xg, .string xb] 26)); have hd4 := hd4.pure ((Below.refl _ _).alloc (Nat.le_refl _) (.cells #[.int .u32 xf, .string xg, .string xb] 26)); have bx4 := bx4.alloc (.cells #[.int .u32 xf, .string xg, .string xb] 26); have by4 := Blk.new w4 [.int .u32 xf, .string xg, .string xb] 26; have bx_c0 := bx4.at 0 rfl; have bx_c1 := bx4.at 1 rfl; have bx_c2 := bx4.at 2 rfl; have bx_c3 := bx4.at 3 rfl; have bx_c4 := bx4.at 4 rfl; have by_c0 := by4.at 0 rfl; have by_c1 := by4.at 1 rfl; have by_c2 := by4.at 2 rfl) | (go_at_call 10; (with_reducible refine (hqa.out _ _ hb4).mono ?_); rintro e w5 ⟨rfl, hB5⟩; have hT5 := hT4.trans (hB5.mono hT4.size); have ha5 := ha4.pure hB5; have hb5 := hb4.pure hB5; have hc5 := hc4.pure hB5; have hd5 := hd4.pure hB5; have bx5 := bx4.pure hB5; have by5 := by4.pure hB5; clear bx_c0 bx_c1 bx_c2 bx_c3 bx_c4 by_c0 by_c1 by_c2; have hS_5 := hT5.size; have hT5 := hT5.alloc hS_5 (.cells #[.int .u32 xf, .string xg, .string xb] 26); have ha5 := ha5.pure ((Below.refl _ _).alloc (Nat.le_refl _) (.cells #[.int .u32 xf, .string xg, .string xb] 26)); have hb5 := hb5.pure ((Below.refl _ _).alloc (Nat.le_refl _) (.cells #[.int .u32 xf, .string xg, .string xb] 26)); have hc5 := hc5.pure ((Below.refl _ _).alloc (Nat.le_refl _) (.cells #[.int .u32 xf, .string xg, .string xb] 26)); have hd5 := hd5.pure ((Below.refl _ _).alloc (Nat.le_refl _) (.cells #[.int .u32 xf, .string xg, .string xb] 26)); have bx5 := bx5.alloc (.cells #[.int .u32 xf, .string xg, .string xb] 26); have by5 := by5.alloc (.cells #[.int .u32 xf, .string xg, .string xb] 26); have bz5 := Blk.new w5 [.int .u32 xf, .string xg, .string xb] 26; have bx_c0 := bx5.at 0 rfl; have bx_c1 := bx5.at 1 rfl; have bx_c2 := bx5.at 2 rfl; have bx_c3 := bx5.at 3 rfl; have bx_c4 := bx5.at 4 rfl; have by_c0 := by5.at 0 rfl; have by_c1 := by5.at 1 rfl; have by_c2 := by5.at 2 rfl; have bz_c0 := bz5.at 0 rfl; have bz_c1 := bz5.at 1 rfl; have bz_c2 := bz5.at 2 rfl))
        go_roundw
        case rel => exact ⟨k + 1, L, by omega, by omega, by go_num, by omega, ha5, hb5, hT5⟩
        case measure => simp [intOf]; omega
    · as_aux_lemma =>
      have hdum := True.intro
      have hj0 : (wh % 6 == 0) = false := by rw [hm6]; rfl
      have hj1 : (wh % 6 == 1) = false := by rw [hm6]; rfl
      have hj2 : (wh % 6 == 2) = true := by rw [hm6]; rfl
      clear hm6 hdum
      have hgo := good_suspend L s (yf, yg, yb)
      obtain ⟨⟨M, c⟩, hMc⟩ : ∃ p, p = suspendF L s (yf, yg, yb) := ⟨_, rfl⟩
      have hp := Lib.hid (fun (u : World) (v : Value) (h : Slc ascEnc 5 u v L) => show Calls Try.prog 27 #[v, .int .u64 s, .agg #[.int .u32 yf, .string yg, .string yb]] u (TurnPost u (M, c)) from by rw [hMc]; exact suspend_any u v L s (yf, yg, yb) h hL)
      have hq := Lib.hid (fun (u : World) (v : Value) (h : Slc ascEnc 5 u v L) => show Calls Try.prog 28 #[v, .int .u64 s, .agg #[.int .u32 yf, .string yg, .string yb]] u (TurnPost u (M, c)) from by rw [hMc]; exact rsuspend_any u v L s (yf, yg, yb) h hL)
      rw [← hMc] at hgo
      clear hMc
      obtain ⟨hMl0, hrow⟩ := hgo
      simp only at hMl0 hrow
      have hMl : M.length ≤ 1000000 := by omega
      by_cases hc0 : c = 0
      · as_aux_lemma =>
        subst hc0
        have hck := Lib.hid (fun (u : World) (v : Value) (h : Slc ascEnc 5 u v M) => show Calls Try.prog 14 #[v] u (fun e w' => e = .returned (.int .i64 0) ∧ Below u.heap.size u w') from by have := check_any u v M h hMl; rw [rowE_yes (hrow rfl)] at this; exact this)
        clear hrow
        obtain ⟨⟨xf, xg, xb⟩, hxx⟩ : ∃ x, x = optX (actA M s) := ⟨_, rfl⟩
        obtain ⟨is, his⟩ : ∃ is, is = (actA M s).isSome := ⟨_, rfl⟩
        have hpa := Lib.hid (fun (u : World) (v : Value) (h : Slc ascEnc 5 u v M) => show Calls Try.prog 9 #[v, .int .u64 s] u (fun e w' => e = .returned (.tuple #[.agg #[.int .u32 xf, .string xg, .string xb], .bool is]) ∧ Below u.heap.size u w') from by have := hac.out u v M h hMl; rw [← hxx, ← his] at this; exact this)
        have hqa := Lib.hid (fun (u : World) (v : Value) (h : Slc ascEnc 5 u v M) => show Calls Try.prog 10 #[v, .int .u64 s] u (fun e w' => e = .returned (.tuple #[.agg #[.int .u32 xf, .string xg, .string xb], .bool is]) ∧ Below u.heap.size u w') from by have := hra.out u v M h hMl; rw [← hxx, ← his] at this; exact this)
        clear hxx his
        have qE := fun (u : World) => xid_neq u xf xf xg xb xg xb
        simp only [show ((xf, xg, xb) != (xf, xg, xb)) = false by rw [bne, xid_self (xf, xg, xb)]; rfl] at qE
        go_wp2_with (first | (go_at_call 27; (with_reducible refine (hp.out _ _ ha0).mono ?_); rintro e w1 ⟨r1, rfl, hO1, hB1⟩; have hT1 := hT0.trans (hB1.mono hT0.size); have hc1 := hO1.slc ascEnc_len; have ha1 := ha0.pure hB1; have hb1 := hb0.pure hB1; have bx1 := bx0.pure hB1; clear bx_c0 bx_c1 bx_c2 bx_c3 bx_c4; have bx_c0 := bx1.at 0 rfl; have bx_c1 := bx1.at 1 rfl; have bx_c2 := bx1.at 2 rfl; have bx_c3 := bx1.at 3 rfl; have bx_c4 := bx1.at 4 rfl) | (go_at_call 28; (with_reducible refine (hq.out _ _ hb1).mono ?_); rintro e w2 ⟨r2, rfl, hO2, hB2⟩; have hT2 := hT1.trans (hB2.mono hT1.size); have hd2 := hO2.slc ascEnc_len; have ha2 := ha1.pure hB2; have hb2 := hb1.pure hB2; have hc2 := hc1.pure hB2; have bx2 := bx1.pure hB2; clear bx_c0 bx_c1 bx_c2 bx_c3 bx_c4; have bx_c0 := bx2.at 0 rfl; have bx_c1 := bx2.at 1 rfl; have bx_c2 := bx2.at 2 rfl; have bx_c3 := bx2.at 3 rfl; have bx_c4 := bx2.at 4 rfl) | (go_at_call 22; (with_reducible refine (same_eq _ _ _ M hc2 hd2 hMl).mono ?_); rintro e w3 ⟨rfl, hB3⟩; have hT3 := hT2.trans (hB3.mono hT2.size); have ha3 := ha2.pure hB3; have hb3 := hb2.pure hB3; have hc3 := hc2.pure hB3; have hd3 := hd2.pure hB3; have bx3 := bx2.pure hB3; clear bx_c0 bx_c1 bx_c2 bx_c3 bx_c4; have bx_c0 := bx3.at 0 rfl; have bx_c1 := bx3.at 1 rfl; have bx_c2 := bx3.at 2 rfl; have bx_c3 := bx3.at 3 rfl; have bx_c4 := bx3.at 4 rfl) | (go_at_call 14; (with_reducible refine (hck.out _ _ hc3).mono ?_); rintro e w4 ⟨rfl, hB4⟩; have hT4 := hT3.trans (hB4.mono hT3.size); have ha4 := ha3.pure hB4; have hb4 := hb3.pure hB4; have hc4 := hc3.pure hB4; have hd4 := hd3.pure hB4; have bx4 := bx3.pure hB4; clear bx_c0 bx_c1 bx_c2 bx_c3 bx_c4; have bx_c0 := bx4.at 0 rfl; have bx_c1 := bx4.at 1 rfl; have bx_c2 := bx4.at 2 rfl; have bx_c3 := bx4.at 3 rfl; have bx_c4 := bx4.at 4 rfl) | (go_at_call 9; (with_reducible refine (hpa.out _ _ hc4).mono ?_); rintro e w5 ⟨rfl, hB5⟩; have hT5 := hT4.trans (hB5.mono hT4.size); have ha5 := ha4.pure hB5; have hb5 := hb4.pure hB5; have hc5 := hc4.pure hB5; have hd5 := hd4.pure hB5; have bx5 := bx4.pure hB5; clear bx_c0 bx_c1 bx_c2 bx_c3 bx_c4; have hS_5 := hT5.size; have hT5 := hT5.alloc hS_5 (.cells #[.int .u32 xf, .string xg, .string xb] 26); have ha5 := ha5.pure ((Below.refl _ _).alloc (Nat.le_refl _) (.cells #[.int .u32 xf, .string xg, .string xb] 26)); have hb5 := hb5.pure ((Below.refl _ _).alloc (Nat.le_refl _) (.cells #[.int .u32 xf, .string xg, .string xb] 26)); have hc5 := hc5.pure ((Below.refl _ _).alloc (Nat.le_refl _) (.cells #[.int .u32 xf, .string xg, .string xb] 26)); have hd5 := hd5.pure ((Below.refl _ _).alloc (Nat.le_refl _) (.cells #[.int .u32 xf, .string xg, .string xb] 26)); have bx5 := bx5.alloc (.cells #[.int .u32 xf, .string xg, .string xb] 26); have by5 := Blk.new w5 [.int .u32 xf, .string xg, .string xb] 26; have bx_c0 := bx5.at 0 rfl; have bx_c1 := bx5.at 1 rfl; have bx_c2 := bx5.at 2 rfl; have bx_c3 := bx5.at 3 rfl; have bx_c4 := bx5.at 4 rfl; have by_c0 := by5.at 0 rfl; have by_c1 := by5.at 1 rfl; have by_c2 := by5.at 2 rfl) | (go_at_call 10; (with_reducible refine (hqa.out _ _ hd5).mono ?_); rintro e w6 ⟨rfl, hB6⟩; have hT6 := hT5.trans (hB6.mono hT5.size); have ha6 := ha5.pure hB6; have hb6 := hb5.pure hB6; have hc6 := hc5.pure hB6; have hd6 := hd5.pure hB6; have bx6 := bx5.pure hB6; have by6 := by5.pure hB6; clear bx_c0 bx_c1 bx_c2 bx_c3 bx_c4 by_c0 by_c1 by_c2; have hS_6 := hT6.size; have hT6 := hT6.alloc hS_6 (.cells #[.int .u32 xf, .string xg, .string xb] 26); have ha6 := ha6.pure ((Below.refl _ _).alloc (Nat.le_refl _) (.cells #[.int .u32 xf, .string xg, .string xb] 26)); have hb6 := hb6.pure ((Below.refl _ _).alloc (Nat.le_refl _) (.cells #[.int .u32 xf, .string xg, .string xb] 26)); have hc6 := hc6.pure ((Below.refl _ _).alloc (Nat.le_refl _) (.cells #[.int .u32 xf, .string xg, .string xb] 26)); have hd6 := hd6.pure ((Below.refl _ _).alloc (Nat.le_refl _) (.cells #[.int .u32 xf, .string xg, .string xb] 26)); have bx6 := bx6.alloc (.cells #[.int .u32 xf, .string xg, .string xb] 26); have by6 := by6.alloc (.cells #[.int .u32 xf, .string xg, .string xb] 26); have bz6 := Blk.new w6 [.int .u32 xf, .string xg, .string xb] 26; have bx_c0 := bx6.at 0 rfl; have bx_c1 := bx6.at 1 rfl; have bx_c2 := bx6.at 2 rfl; have bx_c3 := bx6.at 3 rfl; have bx_c4 := bx6.at 4 rfl; have by_c0 := by6.at 0 rfl; have by_c1 := by6.at 1 rfl; have by_c2 := by6.at 2 rfl; have bz_c0 := bz6.at 0 rfl; have bz_c1 := bz6.at 1 rfl; have bz_c2 := bz6.at 2 rfl))
        go_roundw
        case rel => exact ⟨k + 1, M, by omega, by omega, by go_num, by omega, hc6, hd6, hT6⟩
        case measure => simp [intOf]; omega
      · as_aux_lemma =>
        have hcb : (c == 0) = false := beq_eq_false_iff_ne.2 hc0
        clear hrow hc0
        obtain ⟨⟨xf, xg, xb⟩, hxx⟩ : ∃ x, x = optX (actA L s) := ⟨_, rfl⟩
        obtain ⟨is, his⟩ : ∃ is, is = (actA L s).isSome := ⟨_, rfl⟩
        have hpa := Lib.hid (fun (u : World) (v : Value) (h : Slc ascEnc 5 u v L) => show Calls Try.prog 9 #[v, .int .u64 s] u (fun e w' => e = .returned (.tuple #[.agg #[.int .u32 xf, .string xg, .string xb], .bool is]) ∧ Below u.heap.size u w') from by have := hac.out u v L h hL; rw [← hxx, ← his] at this; exact this)
        have hqa := Lib.hid (fun (u : World) (v : Value) (h : Slc ascEnc 5 u v L) => show Calls Try.prog 10 #[v, .int .u64 s] u (fun e w' => e = .returned (.tuple #[.agg #[.int .u32 xf, .string xg, .string xb], .bool is]) ∧ Below u.heap.size u w') from by have := hra.out u v L h hL; rw [← hxx, ← his] at this; exact this)
        clear hxx his
        have qE := fun (u : World) => xid_neq u xf xf xg xb xg xb
        simp only [show ((xf, xg, xb) != (xf, xg, xb)) = false by rw [bne, xid_self (xf, xg, xb)]; rfl] at qE
        go_wp2_with (first | (go_at_call 27; (with_reducible refine (hp.out _ _ ha0).mono ?_); rintro e w1 ⟨r1, rfl, hO1, hB1⟩; have hT1 := hT0.trans (hB1.mono hT0.size); have hc1 := hO1.slc ascEnc_len; have ha1 := ha0.pure hB1; have hb1 := hb0.pure hB1; have bx1 := bx0.pure hB1; clear bx_c0 bx_c1 bx_c2 bx_c3 bx_c4; have bx_c0 := bx1.at 0 rfl; have bx_c1 := bx1.at 1 rfl; have bx_c2 := bx1.at 2 rfl; have bx_c3 := bx1.at 3 rfl; have bx_c4 := bx1.at 4 rfl) | (go_at_call 28; (with_reducible refine (hq.out _ _ hb1).mono ?_); rintro e w2 ⟨r2, rfl, hO2, hB2⟩; have hT2 := hT1.trans (hB2.mono hT1.size); have hd2 := hO2.slc ascEnc_len; have ha2 := ha1.pure hB2; have hb2 := hb1.pure hB2; have hc2 := hc1.pure hB2; have bx2 := bx1.pure hB2; clear bx_c0 bx_c1 bx_c2 bx_c3 bx_c4; have bx_c0 := bx2.at 0 rfl; have bx_c1 := bx2.at 1 rfl; have bx_c2 := bx2.at 2 rfl; have bx_c3 := bx2.at 3 rfl; have bx_c4 := bx2.at 4 rfl) | (go_at_call 22; (with_reducible refine (same_eq _ _ _ M hc2 hd2 hMl).mono ?_); rintro e w3 ⟨rfl, hB3⟩; have hT3 := hT2.trans (hB3.mono hT2.size); have ha3 := ha2.pure hB3; have hb3 := hb2.pure hB3; have hc3 := hc2.pure hB3; have hd3 := hd2.pure hB3; have bx3 := bx2.pure hB3; clear bx_c0 bx_c1 bx_c2 bx_c3 bx_c4; have bx_c0 := bx3.at 0 rfl; have bx_c1 := bx3.at 1 rfl; have bx_c2 := bx3.at 2 rfl; have bx_c3 := bx3.at 3 rfl; have bx_c4 := bx3.at 4 rfl) | (go_at_call 9; (with_reducible refine (hpa.out _ _ ha3).mono ?_); rintro e w4 ⟨rfl, hB4⟩; have hT4 := hT3.trans (hB4.mono hT3.size); have ha4 := ha3.pure hB4; have hb4 := hb3.pure hB4; have hc4 := hc3.pure hB4; have hd4 := hd3.pure hB4; have bx4 := bx3.pure hB4; clear bx_c0 bx_c1 bx_c2 bx_c3 bx_c4; have hS_4 := hT4.size; have hT4 := hT4.alloc hS_4 (.cells #[.int .u32 xf, .string xg, .string xb] 26); have ha4 := ha4.pure ((Below.refl _ _).alloc (Nat.le_refl _) (.cells #[.int .u32 xf, .string xg, .string xb] 26)); have hb4 := hb4.pure ((Below.refl _ _).alloc (Nat.le_refl _) (.cells #[.int .u32 xf, .string xg, .string xb] 26)); have hc4 := hc4.pure ((Below.refl _ _).alloc (Nat.le_refl _) (.cells #[.int .u32 xf, .string xg, .string xb] 26)); have hd4 := hd4.pure ((Below.refl _ _).alloc (Nat.le_refl _) (.cells #[.int .u32 xf, .string xg, .string xb] 26)); have bx4 := bx4.alloc (.cells #[.int .u32 xf, .string xg, .string xb] 26); have by4 := Blk.new w4 [.int .u32 xf, .string xg, .string xb] 26; have bx_c0 := bx4.at 0 rfl; have bx_c1 := bx4.at 1 rfl; have bx_c2 := bx4.at 2 rfl; have bx_c3 := bx4.at 3 rfl; have bx_c4 := bx4.at 4 rfl; have by_c0 := by4.at 0 rfl; have by_c1 := by4.at 1 rfl; have by_c2 := by4.at 2 rfl) | (go_at_call 10; (with_reducible refine (hqa.out _ _ hb4).mono ?_); rintro e w5 ⟨rfl, hB5⟩; have hT5 := hT4.trans (hB5.mono hT4.size); have ha5 := ha4.pure hB5; have hb5 := hb4.pure hB5; have hc5 := hc4.pure hB5; have hd5 := hd4.pure hB5; have bx5 := bx4.pure hB5; have by5 := by4.pure hB5; clear bx_c0 bx_c1 bx_c2 bx_c3 bx_c4 by_c0 by_c1 by_c2; have hS_5 := hT5.size; have hT5 := hT5.alloc hS_5 (.cells #[.int .u32 xf, .string xg, .string xb] 26); have ha5 := ha5.pure ((Below.refl _ _).alloc (Nat.le_refl _) (.cells #[.int .u32 xf, .string xg, .string xb] 26)); have hb5 := hb5.pure ((Below.refl _ _).alloc (Nat.le_refl _) (.cells #[.int .u32 xf, .string xg, .string xb] 26)); have hc5 := hc5.pure ((Below.refl _ _).alloc (Nat.le_refl _) (.cells #[.int .u32 xf, .string xg, .string xb] 26)); have hd5 := hd5.pure ((Below.refl _ _).alloc (Nat.le_refl _) (.cells #[.int .u32 xf, .string xg, .string xb] 26)); have bx5 := bx5.alloc (.cells #[.int .u32 xf, .string xg, .string xb] 26); have by5 := by5.alloc (.cells #[.int .u32 xf, .string xg, .string xb] 26); have bz5 := Blk.new w5 [.int .u32 xf, .string xg, .string xb] 26; have bx_c0 := bx5.at 0 rfl; have bx_c1 := bx5.at 1 rfl; have bx_c2 := bx5.at 2 rfl; have bx_c3 := bx5.at 3 rfl; have bx_c4 := bx5.at 4 rfl; have by_c0 := by5.at 0 rfl; have by_c1 := by5.at 1 rfl; have by_c2 := by5.at 2 rfl; have bz_c0 := bz5.at 0 rfl; have bz_c1 := bz5.at 1 rfl; have bz_c2 := bz5.at 2 rfl))
        go_roundw
        case rel => exact ⟨k + 1, L, by omega, by omega, by go_num, by omega, ha5, hb5, hT5⟩
        case measure => simp [intOf]; omega
    · as_aux_lemma =>
      have hdum := True.intro
      have hj0 : (wh % 6 == 0) = false := by rw [hm6]; rfl
      have hj1 : (wh % 6 == 1) = false := by rw [hm6]; rfl
      have hj2 : (wh % 6 == 2) = false := by rw [hm6]; rfl
      have hj3 : (wh % 6 == 3) = true := by rw [hm6]; rfl
      clear hm6 hdum
      have hgo := good_end L s (yf, yg, yb)
      obtain ⟨⟨M, c⟩, hMc⟩ : ∃ p, p = endF L s (yf, yg, yb) := ⟨_, rfl⟩
      have hp := Lib.hid (fun (u : World) (v : Value) (h : Slc ascEnc 5 u v L) => show Calls Try.prog 29 #[v, .int .u64 s, .agg #[.int .u32 yf, .string yg, .string yb]] u (TurnPost u (M, c)) from by rw [hMc]; exact end_any u v L s (yf, yg, yb) h hL)
      have hq := Lib.hid (fun (u : World) (v : Value) (h : Slc ascEnc 5 u v L) => show Calls Try.prog 30 #[v, .int .u64 s, .agg #[.int .u32 yf, .string yg, .string yb]] u (TurnPost u (M, c)) from by rw [hMc]; exact rend_any u v L s (yf, yg, yb) h hL)
      rw [← hMc] at hgo
      clear hMc
      obtain ⟨hMl0, hrow⟩ := hgo
      simp only at hMl0 hrow
      have hMl : M.length ≤ 1000000 := by omega
      by_cases hc0 : c = 0
      · as_aux_lemma =>
        subst hc0
        have hck := Lib.hid (fun (u : World) (v : Value) (h : Slc ascEnc 5 u v M) => show Calls Try.prog 14 #[v] u (fun e w' => e = .returned (.int .i64 0) ∧ Below u.heap.size u w') from by have := check_any u v M h hMl; rw [rowE_yes (hrow rfl)] at this; exact this)
        clear hrow
        obtain ⟨⟨xf, xg, xb⟩, hxx⟩ : ∃ x, x = optX (actA M s) := ⟨_, rfl⟩
        obtain ⟨is, his⟩ : ∃ is, is = (actA M s).isSome := ⟨_, rfl⟩
        have hpa := Lib.hid (fun (u : World) (v : Value) (h : Slc ascEnc 5 u v M) => show Calls Try.prog 9 #[v, .int .u64 s] u (fun e w' => e = .returned (.tuple #[.agg #[.int .u32 xf, .string xg, .string xb], .bool is]) ∧ Below u.heap.size u w') from by have := hac.out u v M h hMl; rw [← hxx, ← his] at this; exact this)
        have hqa := Lib.hid (fun (u : World) (v : Value) (h : Slc ascEnc 5 u v M) => show Calls Try.prog 10 #[v, .int .u64 s] u (fun e w' => e = .returned (.tuple #[.agg #[.int .u32 xf, .string xg, .string xb], .bool is]) ∧ Below u.heap.size u w') from by have := hra.out u v M h hMl; rw [← hxx, ← his] at this; exact this)
        clear hxx his
        have qE := fun (u : World) => xid_neq u xf xf xg xb xg xb
        simp only [show ((xf, xg, xb) != (xf, xg, xb)) = false by rw [bne, xid_self (xf, xg, xb)]; rfl] at qE
        go_wp2_with (first | (go_at_call 29; (with_reducible refine (hp.out _ _ ha0).mono ?_); rintro e w1 ⟨r1, rfl, hO1, hB1⟩; have hT1 := hT0.trans (hB1.mono hT0.size); have hc1 := hO1.slc ascEnc_len; have ha1 := ha0.pure hB1; have hb1 := hb0.pure hB1; have bx1 := bx0.pure hB1; clear bx_c0 bx_c1 bx_c2 bx_c3 bx_c4; have bx_c0 := bx1.at 0 rfl; have bx_c1 := bx1.at 1 rfl; have bx_c2 := bx1.at 2 rfl; have bx_c3 := bx1.at 3 rfl; have bx_c4 := bx1.at 4 rfl) | (go_at_call 30; (with_reducible refine (hq.out _ _ hb1).mono ?_); rintro e w2 ⟨r2, rfl, hO2, hB2⟩; have hT2 := hT1.trans (hB2.mono hT1.size); have hd2 := hO2.slc ascEnc_len; have ha2 := ha1.pure hB2; have hb2 := hb1.pure hB2; have hc2 := hc1.pure hB2; have bx2 := bx1.pure hB2; clear bx_c0 bx_c1 bx_c2 bx_c3 bx_c4; have bx_c0 := bx2.at 0 rfl; have bx_c1 := bx2.at 1 rfl; have bx_c2 := bx2.at 2 rfl; have bx_c3 := bx2.at 3 rfl; have bx_c4 := bx2.at 4 rfl) | (go_at_call 22; (with_reducible refine (same_eq _ _ _ M hc2 hd2 hMl).mono ?_); rintro e w3 ⟨rfl, hB3⟩; have hT3 := hT2.trans (hB3.mono hT2.size); have ha3 := ha2.pure hB3; have hb3 := hb2.pure hB3; have hc3 := hc2.pure hB3; have hd3 := hd2.pure hB3; have bx3 := bx2.pure hB3; clear bx_c0 bx_c1 bx_c2 bx_c3 bx_c4; have bx_c0 := bx3.at 0 rfl; have bx_c1 := bx3.at 1 rfl; have bx_c2 := bx3.at 2 rfl; have bx_c3 := bx3.at 3 rfl; have bx_c4 := bx3.at 4 rfl) | (go_at_call 14; (with_reducible refine (hck.out _ _ hc3).mono ?_); rintro e w4 ⟨rfl, hB4⟩; have hT4 := hT3.trans (hB4.mono hT3.size); have ha4 := ha3.pure hB4; have hb4 := hb3.pure hB4; have hc4 := hc3.pure hB4; have hd4 := hd3.pure hB4; have bx4 := bx3.pure hB4; clear bx_c0 bx_c1 bx_c2 bx_c3 bx_c4; have bx_c0 := bx4.at 0 rfl; have bx_c1 := bx4.at 1 rfl; have bx_c2 := bx4.at 2 rfl; have bx_c3 := bx4.at 3 rfl; have bx_c4 := bx4.at 4 rfl) | (go_at_call 9; (with_reducible refine (hpa.out _ _ hc4).mono ?_); rintro e w5 ⟨rfl, hB5⟩; have hT5 := hT4.trans (hB5.mono hT4.size); have ha5 := ha4.pure hB5; have hb5 := hb4.pure hB5; have hc5 := hc4.pure hB5; have hd5 := hd4.pure hB5; have bx5 := bx4.pure hB5; clear bx_c0 bx_c1 bx_c2 bx_c3 bx_c4; have hS_5 := hT5.size; have hT5 := hT5.alloc hS_5 (.cells #[.int .u32 xf, .string xg, .string xb] 26); have ha5 := ha5.pure ((Below.refl _ _).alloc (Nat.le_refl _) (.cells #[.int .u32 xf, .string xg, .string xb] 26)); have hb5 := hb5.pure ((Below.refl _ _).alloc (Nat.le_refl _) (.cells #[.int .u32 xf, .string xg, .string xb] 26)); have hc5 := hc5.pure ((Below.refl _ _).alloc (Nat.le_refl _) (.cells #[.int .u32 xf, .string xg, .string xb] 26)); have hd5 := hd5.pure ((Below.refl _ _).alloc (Nat.le_refl _) (.cells #[.int .u32 xf, .string xg, .string xb] 26)); have bx5 := bx5.alloc (.cells #[.int .u32 xf, .string xg, .string xb] 26); have by5 := Blk.new w5 [.int .u32 xf, .string xg, .string xb] 26; have bx_c0 := bx5.at 0 rfl; have bx_c1 := bx5.at 1 rfl; have bx_c2 := bx5.at 2 rfl; have bx_c3 := bx5.at 3 rfl; have bx_c4 := bx5.at 4 rfl; have by_c0 := by5.at 0 rfl; have by_c1 := by5.at 1 rfl; have by_c2 := by5.at 2 rfl) | (go_at_call 10; (with_reducible refine (hqa.out _ _ hd5).mono ?_); rintro e w6 ⟨rfl, hB6⟩; have hT6 := hT5.trans (hB6.mono hT5.size); have ha6 := ha5.pure hB6; have hb6 := hb5.pure hB6; have hc6 := hc5.pure hB6; have hd6 := hd5.pure hB6; have bx6 := bx5.pure hB6; have by6 := by5.pure hB6; clear bx_c0 bx_c1 bx_c2 bx_c3 bx_c4 by_c0 by_c1 by_c2; have hS_6 := hT6.size; have hT6 := hT6.alloc hS_6 (.cells #[.int .u32 xf, .string xg, .string xb] 26); have ha6 := ha6.pure ((Below.refl _ _).alloc (Nat.le_refl _) (.cells #[.int .u32 xf, .string xg, .string xb] 26)); have hb6 := hb6.pure ((Below.refl _ _).alloc (Nat.le_refl _) (.cells #[.int .u32 xf, .string xg, .string xb] 26)); have hc6 := hc6.pure ((Below.refl _ _).alloc (Nat.le_refl _) (.cells #[.int .u32 xf, .string xg, .string xb] 26)); have hd6 := hd6.pure ((Below.refl _ _).alloc (Nat.le_refl _) (.cells #[.int .u32 xf, .string xg, .string xb] 26)); have bx6 := bx6.alloc (.cells #[.int .u32 xf, .string xg, .string xb] 26); have by6 := by6.alloc (.cells #[.int .u32 xf, .string xg, .string xb] 26); have bz6 := Blk.new w6 [.int .u32 xf, .string xg, .string xb] 26; have bx_c0 := bx6.at 0 rfl; have bx_c1 := bx6.at 1 rfl; have bx_c2 := bx6.at 2 rfl; have bx_c3 := bx6.at 3 rfl; have bx_c4 := bx6.at 4 rfl; have by_c0 := by6.at 0 rfl; have by_c1 := by6.at 1 rfl; have by_c2 := by6.at 2 rfl; have bz_c0 := bz6.at 0 rfl; have bz_c1 := bz6.at 1 rfl; have bz_c2 := bz6.at 2 rfl))
        go_roundw
        case rel => exact ⟨k + 1, M, by omega, by omega, by go_num, by omega, hc6, hd6, hT6⟩
        case measure => simp [intOf]; omega
      · as_aux_lemma =>
        have hcb : (c == 0) = false := beq_eq_false_iff_ne.2 hc0
        clear hrow hc0
        obtain ⟨⟨xf, xg, xb⟩, hxx⟩ : ∃ x, x = optX (actA L s) := ⟨_, rfl⟩
        obtain ⟨is, his⟩ : ∃ is, is = (actA L s).isSome := ⟨_, rfl⟩
        have hpa := Lib.hid (fun (u : World) (v : Value) (h : Slc ascEnc 5 u v L) => show Calls Try.prog 9 #[v, .int .u64 s] u (fun e w' => e = .returned (.tuple #[.agg #[.int .u32 xf, .string xg, .string xb], .bool is]) ∧ Below u.heap.size u w') from by have := hac.out u v L h hL; rw [← hxx, ← his] at this; exact this)
        have hqa := Lib.hid (fun (u : World) (v : Value) (h : Slc ascEnc 5 u v L) => show Calls Try.prog 10 #[v, .int .u64 s] u (fun e w' => e = .returned (.tuple #[.agg #[.int .u32 xf, .string xg, .string xb], .bool is]) ∧ Below u.heap.size u w') from by have := hra.out u v L h hL; rw [← hxx, ← his] at this; exact this)
        clear hxx his
        have qE := fun (u : World) => xid_neq u xf xf xg xb xg xb
        simp only [show ((xf, xg, xb) != (xf, xg, xb)) = false by rw [bne, xid_self (xf, xg, xb)]; rfl] at qE
        go_wp2_with (first | (go_at_call 29; (with_reducible refine (hp.out _ _ ha0).mono ?_); rintro e w1 ⟨r1, rfl, hO1, hB1⟩; have hT1 := hT0.trans (hB1.mono hT0.size); have hc1 := hO1.slc ascEnc_len; have ha1 := ha0.pure hB1; have hb1 := hb0.pure hB1; have bx1 := bx0.pure hB1; clear bx_c0 bx_c1 bx_c2 bx_c3 bx_c4; have bx_c0 := bx1.at 0 rfl; have bx_c1 := bx1.at 1 rfl; have bx_c2 := bx1.at 2 rfl; have bx_c3 := bx1.at 3 rfl; have bx_c4 := bx1.at 4 rfl) | (go_at_call 30; (with_reducible refine (hq.out _ _ hb1).mono ?_); rintro e w2 ⟨r2, rfl, hO2, hB2⟩; have hT2 := hT1.trans (hB2.mono hT1.size); have hd2 := hO2.slc ascEnc_len; have ha2 := ha1.pure hB2; have hb2 := hb1.pure hB2; have hc2 := hc1.pure hB2; have bx2 := bx1.pure hB2; clear bx_c0 bx_c1 bx_c2 bx_c3 bx_c4; have bx_c0 := bx2.at 0 rfl; have bx_c1 := bx2.at 1 rfl; have bx_c2 := bx2.at 2 rfl; have bx_c3 := bx2.at 3 rfl; have bx_c4 := bx2.at 4 rfl) | (go_at_call 22; (with_reducible refine (same_eq _ _ _ M hc2 hd2 hMl).mono ?_); rintro e w3 ⟨rfl, hB3⟩; have hT3 := hT2.trans (hB3.mono hT2.size); have ha3 := ha2.pure hB3; have hb3 := hb2.pure hB3; have hc3 := hc2.pure hB3; have hd3 := hd2.pure hB3; have bx3 := bx2.pure hB3; clear bx_c0 bx_c1 bx_c2 bx_c3 bx_c4; have bx_c0 := bx3.at 0 rfl; have bx_c1 := bx3.at 1 rfl; have bx_c2 := bx3.at 2 rfl; have bx_c3 := bx3.at 3 rfl; have bx_c4 := bx3.at 4 rfl) | (go_at_call 9; (with_reducible refine (hpa.out _ _ ha3).mono ?_); rintro e w4 ⟨rfl, hB4⟩; have hT4 := hT3.trans (hB4.mono hT3.size); have ha4 := ha3.pure hB4; have hb4 := hb3.pure hB4; have hc4 := hc3.pure hB4; have hd4 := hd3.pure hB4; have bx4 := bx3.pure hB4; clear bx_c0 bx_c1 bx_c2 bx_c3 bx_c4; have hS_4 := hT4.size; have hT4 := hT4.alloc hS_4 (.cells #[.int .u32 xf, .string xg, .string xb] 26); have ha4 := ha4.pure ((Below.refl _ _).alloc (Nat.le_refl _) (.cells #[.int .u32 xf, .string xg, .string xb] 26)); have hb4 := hb4.pure ((Below.refl _ _).alloc (Nat.le_refl _) (.cells #[.int .u32 xf, .string xg, .string xb] 26)); have hc4 := hc4.pure ((Below.refl _ _).alloc (Nat.le_refl _) (.cells #[.int .u32 xf, .string xg, .string xb] 26)); have hd4 := hd4.pure ((Below.refl _ _).alloc (Nat.le_refl _) (.cells #[.int .u32 xf, .string xg, .string xb] 26)); have bx4 := bx4.alloc (.cells #[.int .u32 xf, .string xg, .string xb] 26); have by4 := Blk.new w4 [.int .u32 xf, .string xg, .string xb] 26; have bx_c0 := bx4.at 0 rfl; have bx_c1 := bx4.at 1 rfl; have bx_c2 := bx4.at 2 rfl; have bx_c3 := bx4.at 3 rfl; have bx_c4 := bx4.at 4 rfl; have by_c0 := by4.at 0 rfl; have by_c1 := by4.at 1 rfl; have by_c2 := by4.at 2 rfl) | (go_at_call 10; (with_reducible refine (hqa.out _ _ hb4).mono ?_); rintro e w5 ⟨rfl, hB5⟩; have hT5 := hT4.trans (hB5.mono hT4.size); have ha5 := ha4.pure hB5; have hb5 := hb4.pure hB5; have hc5 := hc4.pure hB5; have hd5 := hd4.pure hB5; have bx5 := bx4.pure hB5; have by5 := by4.pure hB5; clear bx_c0 bx_c1 bx_c2 bx_c3 bx_c4 by_c0 by_c1 by_c2; have hS_5 := hT5.size; have hT5 := hT5.alloc hS_5 (.cells #[.int .u32 xf, .string xg, .string xb] 26); have ha5 := ha5.pure ((Below.refl _ _).alloc (Nat.le_refl _) (.cells #[.int .u32 xf, .string xg, .string xb] 26)); have hb5 := hb5.pure ((Below.refl _ _).alloc (Nat.le_refl _) (.cells #[.int .u32 xf, .string xg, .string xb] 26)); have hc5 := hc5.pure ((Below.refl _ _).alloc (Nat.le_refl _) (.cells #[.int .u32 xf, .string xg, .string xb] 26)); have hd5 := hd5.pure ((Below.refl _ _).alloc (Nat.le_refl _) (.cells #[.int .u32 xf, .string xg, .string xb] 26)); have bx5 := bx5.alloc (.cells #[.int .u32 xf, .string xg, .string xb] 26); have by5 := by5.alloc (.cells #[.int .u32 xf, .string xg, .string xb] 26); have bz5 := Blk.new w5 [.int .u32 xf, .string xg, .string xb] 26; have bx_c0 := bx5.at 0 rfl; have bx_c1 := bx5.at 1 rfl; have bx_c2 := bx5.at 2 rfl; have bx_c3 := bx5.at 3 rfl; have bx_c4 := bx5.at 4 rfl; have by_c0 := by5.at 0 rfl; have by_c1 := by5.at 1 rfl; have by_c2 := by5.at 2 rfl; have bz_c0 := bz5.at 0 rfl; have bz_c1 := bz5.at 1 rfl; have bz_c2 := bz5.at 2 rfl))
        go_roundw
        case rel => exact ⟨k + 1, L, by omega, by omega, by go_num, by omega, ha5, hb5, hT5⟩
        case measure => simp [intOf]; omega
    · as_aux_lemma =>
      have hdum := True.intro
      have hj0 : (wh % 6 == 0) = false := by rw [hm6]; rfl
      have hj1 : (wh % 6 == 1) = false := by rw [hm6]; rfl
      have hj2 : (wh % 6 == 2) = false := by rw [hm6]; rfl
      have hj3 : (wh % 6 == 3) = false := by rw [hm6]; rfl
      have hj4 : (wh % 6 == 4) = true := by rw [hm6]; rfl
      clear hm6 hdum
      have hgo := good_leave L s
      obtain ⟨⟨M, c⟩, hMc⟩ : ∃ p, p = leaveF L s := ⟨_, rfl⟩
      have hp := Lib.hid (fun (u : World) (v : Value) (h : Slc ascEnc 5 u v L) => show Calls Try.prog 18 #[v, .int .u64 s] u (TurnPost u (M, c)) from by rw [hMc]; exact leave_any u v L s h hL)
      have hq := Lib.hid (fun (u : World) (v : Value) (h : Slc ascEnc 5 u v L) => show Calls Try.prog 19 #[v, .int .u64 s] u (TurnPost u (M, c)) from by rw [hMc]; exact rleave_any u v L s h hL)
      rw [← hMc] at hgo
      clear hMc
      obtain ⟨hMl0, hrow⟩ := hgo
      simp only at hMl0 hrow
      have hMl : M.length ≤ 1000000 := by omega
      by_cases hc0 : c = 0
      · as_aux_lemma =>
        subst hc0
        have hck := Lib.hid (fun (u : World) (v : Value) (h : Slc ascEnc 5 u v M) => show Calls Try.prog 14 #[v] u (fun e w' => e = .returned (.int .i64 0) ∧ Below u.heap.size u w') from by have := check_any u v M h hMl; rw [rowE_yes (hrow rfl)] at this; exact this)
        clear hrow
        obtain ⟨⟨xf, xg, xb⟩, hxx⟩ : ∃ x, x = optX (actA M s) := ⟨_, rfl⟩
        obtain ⟨is, his⟩ : ∃ is, is = (actA M s).isSome := ⟨_, rfl⟩
        have hpa := Lib.hid (fun (u : World) (v : Value) (h : Slc ascEnc 5 u v M) => show Calls Try.prog 9 #[v, .int .u64 s] u (fun e w' => e = .returned (.tuple #[.agg #[.int .u32 xf, .string xg, .string xb], .bool is]) ∧ Below u.heap.size u w') from by have := hac.out u v M h hMl; rw [← hxx, ← his] at this; exact this)
        have hqa := Lib.hid (fun (u : World) (v : Value) (h : Slc ascEnc 5 u v M) => show Calls Try.prog 10 #[v, .int .u64 s] u (fun e w' => e = .returned (.tuple #[.agg #[.int .u32 xf, .string xg, .string xb], .bool is]) ∧ Below u.heap.size u w') from by have := hra.out u v M h hMl; rw [← hxx, ← his] at this; exact this)
        clear hxx his
        have qE := fun (u : World) => xid_neq u xf xf xg xb xg xb
        simp only [show ((xf, xg, xb) != (xf, xg, xb)) = false by rw [bne, xid_self (xf, xg, xb)]; rfl] at qE
        go_wp2_with (first | (go_at_call 18; (with_reducible refine (hp.out _ _ ha0).mono ?_); rintro e w1 ⟨r1, rfl, hO1, hB1⟩; have hT1 := hT0.trans (hB1.mono hT0.size); have hc1 := hO1.slc ascEnc_len; have ha1 := ha0.pure hB1; have hb1 := hb0.pure hB1; have bx1 := bx0.pure hB1; clear bx_c0 bx_c1 bx_c2 bx_c3 bx_c4; have bx_c0 := bx1.at 0 rfl; have bx_c1 := bx1.at 1 rfl; have bx_c2 := bx1.at 2 rfl; have bx_c3 := bx1.at 3 rfl; have bx_c4 := bx1.at 4 rfl) | (go_at_call 19; (with_reducible refine (hq.out _ _ hb1).mono ?_); rintro e w2 ⟨r2, rfl, hO2, hB2⟩; have hT2 := hT1.trans (hB2.mono hT1.size); have hd2 := hO2.slc ascEnc_len; have ha2 := ha1.pure hB2; have hb2 := hb1.pure hB2; have hc2 := hc1.pure hB2; have bx2 := bx1.pure hB2; clear bx_c0 bx_c1 bx_c2 bx_c3 bx_c4; have bx_c0 := bx2.at 0 rfl; have bx_c1 := bx2.at 1 rfl; have bx_c2 := bx2.at 2 rfl; have bx_c3 := bx2.at 3 rfl; have bx_c4 := bx2.at 4 rfl) | (go_at_call 22; (with_reducible refine (same_eq _ _ _ M hc2 hd2 hMl).mono ?_); rintro e w3 ⟨rfl, hB3⟩; have hT3 := hT2.trans (hB3.mono hT2.size); have ha3 := ha2.pure hB3; have hb3 := hb2.pure hB3; have hc3 := hc2.pure hB3; have hd3 := hd2.pure hB3; have bx3 := bx2.pure hB3; clear bx_c0 bx_c1 bx_c2 bx_c3 bx_c4; have bx_c0 := bx3.at 0 rfl; have bx_c1 := bx3.at 1 rfl; have bx_c2 := bx3.at 2 rfl; have bx_c3 := bx3.at 3 rfl; have bx_c4 := bx3.at 4 rfl) | (go_at_call 14; (with_reducible refine (hck.out _ _ hc3).mono ?_); rintro e w4 ⟨rfl, hB4⟩; have hT4 := hT3.trans (hB4.mono hT3.size); have ha4 := ha3.pure hB4; have hb4 := hb3.pure hB4; have hc4 := hc3.pure hB4; have hd4 := hd3.pure hB4; have bx4 := bx3.pure hB4; clear bx_c0 bx_c1 bx_c2 bx_c3 bx_c4; have bx_c0 := bx4.at 0 rfl; have bx_c1 := bx4.at 1 rfl; have bx_c2 := bx4.at 2 rfl; have bx_c3 := bx4.at 3 rfl; have bx_c4 := bx4.at 4 rfl) | (go_at_call 9; (with_reducible refine (hpa.out _ _ hc4).mono ?_); rintro e w5 ⟨rfl, hB5⟩; have hT5 := hT4.trans (hB5.mono hT4.size); have ha5 := ha4.pure hB5; have hb5 := hb4.pure hB5; have hc5 := hc4.pure hB5; have hd5 := hd4.pure hB5; have bx5 := bx4.pure hB5; clear bx_c0 bx_c1 bx_c2 bx_c3 bx_c4; have hS_5 := hT5.size; have hT5 := hT5.alloc hS_5 (.cells #[.int .u32 xf, .string xg, .string xb] 26); have ha5 := ha5.pure ((Below.refl _ _).alloc (Nat.le_refl _) (.cells #[.int .u32 xf, .string xg, .string xb] 26)); have hb5 := hb5.pure ((Below.refl _ _).alloc (Nat.le_refl _) (.cells #[.int .u32 xf, .string xg, .string xb] 26)); have hc5 := hc5.pure ((Below.refl _ _).alloc (Nat.le_refl _) (.cells #[.int .u32 xf, .string xg, .string xb] 26)); have hd5 := hd5.pure ((Below.refl _ _).alloc (Nat.le_refl _) (.cells #[.int .u32 xf, .string xg, .string xb] 26)); have bx5 := bx5.alloc (.cells #[.int .u32 xf, .string xg, .string xb] 26); have by5 := Blk.new w5 [.int .u32 xf, .string xg, .string xb] 26; have bx_c0 := bx5.at 0 rfl; have bx_c1 := bx5.at 1 rfl; have bx_c2 := bx5.at 2 rfl; have bx_c3 := bx5.at 3 rfl; have bx_c4 := bx5.at 4 rfl; have by_c0 := by5.at 0 rfl; have by_c1 := by5.at 1 rfl; have by_c2 := by5.at 2 rfl) | (go_at_call 10; (with_reducible refine (hqa.out _ _ hd5).mono ?_); rintro e w6 ⟨rfl, hB6⟩; have hT6 := hT5.trans (hB6.mono hT5.size); have ha6 := ha5.pure hB6; have hb6 := hb5.pure hB6; have hc6 := hc5.pure hB6; have hd6 := hd5.pure hB6; have bx6 := bx5.pure hB6; have by6 := by5.pure hB6; clear bx_c0 bx_c1 bx_c2 bx_c3 bx_c4 by_c0 by_c1 by_c2; have hS_6 := hT6.size; have hT6 := hT6.alloc hS_6 (.cells #[.int .u32 xf, .string xg, .string xb] 26); have ha6 := ha6.pure ((Below.refl _ _).alloc (Nat.le_refl _) (.cells #[.int .u32 xf, .string xg, .string xb] 26)); have hb6 := hb6.pure ((Below.refl _ _).alloc (Nat.le_refl _) (.cells #[.int .u32 xf, .string xg, .string xb] 26)); have hc6 := hc6.pure ((Below.refl _ _).alloc (Nat.le_refl _) (.cells #[.int .u32 xf, .string xg, .string xb] 26)); have hd6 := hd6.pure ((Below.refl _ _).alloc (Nat.le_refl _) (.cells #[.int .u32 xf, .string xg, .string xb] 26)); have bx6 := bx6.alloc (.cells #[.int .u32 xf, .string xg, .string xb] 26); have by6 := by6.alloc (.cells #[.int .u32 xf, .string xg, .string xb] 26); have bz6 := Blk.new w6 [.int .u32 xf, .string xg, .string xb] 26; have bx_c0 := bx6.at 0 rfl; have bx_c1 := bx6.at 1 rfl; have bx_c2 := bx6.at 2 rfl; have bx_c3 := bx6.at 3 rfl; have bx_c4 := bx6.at 4 rfl; have by_c0 := by6.at 0 rfl; have by_c1 := by6.at 1 rfl; have by_c2 := by6.at 2 rfl; have bz_c0 := bz6.at 0 rfl; have bz_c1 := bz6.at 1 rfl; have bz_c2 := bz6.at 2 rfl))
        go_roundw
        case rel => exact ⟨k + 1, M, by omega, by omega, by go_num, by omega, hc6, hd6, hT6⟩
        case measure => simp [intOf]; omega
      · as_aux_lemma =>
        have hcb : (c == 0) = false := beq_eq_false_iff_ne.2 hc0
        clear hrow hc0
        obtain ⟨⟨xf, xg, xb⟩, hxx⟩ : ∃ x, x = optX (actA L s) := ⟨_, rfl⟩
        obtain ⟨is, his⟩ : ∃ is, is = (actA L s).isSome := ⟨_, rfl⟩
        have hpa := Lib.hid (fun (u : World) (v : Value) (h : Slc ascEnc 5 u v L) => show Calls Try.prog 9 #[v, .int .u64 s] u (fun e w' => e = .returned (.tuple #[.agg #[.int .u32 xf, .string xg, .string xb], .bool is]) ∧ Below u.heap.size u w') from by have := hac.out u v L h hL; rw [← hxx, ← his] at this; exact this)
        have hqa := Lib.hid (fun (u : World) (v : Value) (h : Slc ascEnc 5 u v L) => show Calls Try.prog 10 #[v, .int .u64 s] u (fun e w' => e = .returned (.tuple #[.agg #[.int .u32 xf, .string xg, .string xb], .bool is]) ∧ Below u.heap.size u w') from by have := hra.out u v L h hL; rw [← hxx, ← his] at this; exact this)
        clear hxx his
        have qE := fun (u : World) => xid_neq u xf xf xg xb xg xb
        simp only [show ((xf, xg, xb) != (xf, xg, xb)) = false by rw [bne, xid_self (xf, xg, xb)]; rfl] at qE
        go_wp2_with (first | (go_at_call 18; (with_reducible refine (hp.out _ _ ha0).mono ?_); rintro e w1 ⟨r1, rfl, hO1, hB1⟩; have hT1 := hT0.trans (hB1.mono hT0.size); have hc1 := hO1.slc ascEnc_len; have ha1 := ha0.pure hB1; have hb1 := hb0.pure hB1; have bx1 := bx0.pure hB1; clear bx_c0 bx_c1 bx_c2 bx_c3 bx_c4; have bx_c0 := bx1.at 0 rfl; have bx_c1 := bx1.at 1 rfl; have bx_c2 := bx1.at 2 rfl; have bx_c3 := bx1.at 3 rfl; have bx_c4 := bx1.at 4 rfl) | (go_at_call 19; (with_reducible refine (hq.out _ _ hb1).mono ?_); rintro e w2 ⟨r2, rfl, hO2, hB2⟩; have hT2 := hT1.trans (hB2.mono hT1.size); have hd2 := hO2.slc ascEnc_len; have ha2 := ha1.pure hB2; have hb2 := hb1.pure hB2; have hc2 := hc1.pure hB2; have bx2 := bx1.pure hB2; clear bx_c0 bx_c1 bx_c2 bx_c3 bx_c4; have bx_c0 := bx2.at 0 rfl; have bx_c1 := bx2.at 1 rfl; have bx_c2 := bx2.at 2 rfl; have bx_c3 := bx2.at 3 rfl; have bx_c4 := bx2.at 4 rfl) | (go_at_call 22; (with_reducible refine (same_eq _ _ _ M hc2 hd2 hMl).mono ?_); rintro e w3 ⟨rfl, hB3⟩; have hT3 := hT2.trans (hB3.mono hT2.size); have ha3 := ha2.pure hB3; have hb3 := hb2.pure hB3; have hc3 := hc2.pure hB3; have hd3 := hd2.pure hB3; have bx3 := bx2.pure hB3; clear bx_c0 bx_c1 bx_c2 bx_c3 bx_c4; have bx_c0 := bx3.at 0 rfl; have bx_c1 := bx3.at 1 rfl; have bx_c2 := bx3.at 2 rfl; have bx_c3 := bx3.at 3 rfl; have bx_c4 := bx3.at 4 rfl) | (go_at_call 9; (with_reducible refine (hpa.out _ _ ha3).mono ?_); rintro e w4 ⟨rfl, hB4⟩; have hT4 := hT3.trans (hB4.mono hT3.size); have ha4 := ha3.pure hB4; have hb4 := hb3.pure hB4; have hc4 := hc3.pure hB4; have hd4 := hd3.pure hB4; have bx4 := bx3.pure hB4; clear bx_c0 bx_c1 bx_c2 bx_c3 bx_c4; have hS_4 := hT4.size; have hT4 := hT4.alloc hS_4 (.cells #[.int .u32 xf, .string xg, .string xb] 26); have ha4 := ha4.pure ((Below.refl _ _).alloc (Nat.le_refl _) (.cells #[.int .u32 xf, .string xg, .string xb] 26)); have hb4 := hb4.pure ((Below.refl _ _).alloc (Nat.le_refl _) (.cells #[.int .u32 xf, .string xg, .string xb] 26)); have hc4 := hc4.pure ((Below.refl _ _).alloc (Nat.le_refl _) (.cells #[.int .u32 xf, .string xg, .string xb] 26)); have hd4 := hd4.pure ((Below.refl _ _).alloc (Nat.le_refl _) (.cells #[.int .u32 xf, .string xg, .string xb] 26)); have bx4 := bx4.alloc (.cells #[.int .u32 xf, .string xg, .string xb] 26); have by4 := Blk.new w4 [.int .u32 xf, .string xg, .string xb] 26; have bx_c0 := bx4.at 0 rfl; have bx_c1 := bx4.at 1 rfl; have bx_c2 := bx4.at 2 rfl; have bx_c3 := bx4.at 3 rfl; have bx_c4 := bx4.at 4 rfl; have by_c0 := by4.at 0 rfl; have by_c1 := by4.at 1 rfl; have by_c2 := by4.at 2 rfl) | (go_at_call 10; (with_reducible refine (hqa.out _ _ hb4).mono ?_); rintro e w5 ⟨rfl, hB5⟩; have hT5 := hT4.trans (hB5.mono hT4.size); have ha5 := ha4.pure hB5; have hb5 := hb4.pure hB5; have hc5 := hc4.pure hB5; have hd5 := hd4.pure hB5; have bx5 := bx4.pure hB5; have by5 := by4.pure hB5; clear bx_c0 bx_c1 bx_c2 bx_c3 bx_c4 by_c0 by_c1 by_c2; have hS_5 := hT5.size; have hT5 := hT5.alloc hS_5 (.cells #[.int .u32 xf, .string xg, .string xb] 26); have ha5 := ha5.pure ((Below.refl _ _).alloc (Nat.le_refl _) (.cells #[.int .u32 xf, .string xg, .string xb] 26)); have hb5 := hb5.pure ((Below.refl _ _).alloc (Nat.le_refl _) (.cells #[.int .u32 xf, .string xg, .string xb] 26)); have hc5 := hc5.pure ((Below.refl _ _).alloc (Nat.le_refl _) (.cells #[.int .u32 xf, .string xg, .string xb] 26)); have hd5 := hd5.pure ((Below.refl _ _).alloc (Nat.le_refl _) (.cells #[.int .u32 xf, .string xg, .string xb] 26)); have bx5 := bx5.alloc (.cells #[.int .u32 xf, .string xg, .string xb] 26); have by5 := by5.alloc (.cells #[.int .u32 xf, .string xg, .string xb] 26); have bz5 := Blk.new w5 [.int .u32 xf, .string xg, .string xb] 26; have bx_c0 := bx5.at 0 rfl; have bx_c1 := bx5.at 1 rfl; have bx_c2 := bx5.at 2 rfl; have bx_c3 := bx5.at 3 rfl; have bx_c4 := bx5.at 4 rfl; have by_c0 := by5.at 0 rfl; have by_c1 := by5.at 1 rfl; have by_c2 := by5.at 2 rfl; have bz_c0 := bz5.at 0 rfl; have bz_c1 := bz5.at 1 rfl; have bz_c2 := bz5.at 2 rfl))
        go_roundw
        case rel => exact ⟨k + 1, L, by omega, by omega, by go_num, by omega, ha5, hb5, hT5⟩
        case measure => simp [intOf]; omega
    · as_aux_lemma =>
      have hdum := True.intro
      have hj0 : (wh % 6 == 0) = false := by rw [hm6]; rfl
      have hj1 : (wh % 6 == 1) = false := by rw [hm6]; rfl
      have hj2 : (wh % 6 == 2) = false := by rw [hm6]; rfl
      have hj3 : (wh % 6 == 3) = false := by rw [hm6]; rfl
      have hj4 : (wh % 6 == 4) = false := by rw [hm6]; rfl
      have hj5 : (wh % 6 == 5) = true := by rw [hm6]; rfl
      clear hm6 hdum
      have hgo := good_clear L (yf, yg, yb)
      obtain ⟨⟨M, c⟩, hMc⟩ : ∃ p, p = clearF L (yf, yg, yb) := ⟨_, rfl⟩
      have hp := Lib.hid (fun (u : World) (v : Value) (h : Slc ascEnc 5 u v L) => show Calls Try.prog 20 #[v, .agg #[.int .u32 yf, .string yg, .string yb]] u (TurnPost u (M, c)) from by rw [hMc]; exact clear_any u v L (yf, yg, yb) h hL)
      have hq := Lib.hid (fun (u : World) (v : Value) (h : Slc ascEnc 5 u v L) => show Calls Try.prog 21 #[v, .agg #[.int .u32 yf, .string yg, .string yb]] u (TurnPost u (M, c)) from by rw [hMc]; exact rclear_any u v L (yf, yg, yb) h hL)
      rw [← hMc] at hgo
      clear hMc
      obtain ⟨hMl0, hrow⟩ := hgo
      simp only at hMl0 hrow
      have hMl : M.length ≤ 1000000 := by omega
      by_cases hc0 : c = 0
      · as_aux_lemma =>
        subst hc0
        have hck := Lib.hid (fun (u : World) (v : Value) (h : Slc ascEnc 5 u v M) => show Calls Try.prog 14 #[v] u (fun e w' => e = .returned (.int .i64 0) ∧ Below u.heap.size u w') from by have := check_any u v M h hMl; rw [rowE_yes (hrow rfl)] at this; exact this)
        clear hrow
        obtain ⟨⟨xf, xg, xb⟩, hxx⟩ : ∃ x, x = optX (actA M s) := ⟨_, rfl⟩
        obtain ⟨is, his⟩ : ∃ is, is = (actA M s).isSome := ⟨_, rfl⟩
        have hpa := Lib.hid (fun (u : World) (v : Value) (h : Slc ascEnc 5 u v M) => show Calls Try.prog 9 #[v, .int .u64 s] u (fun e w' => e = .returned (.tuple #[.agg #[.int .u32 xf, .string xg, .string xb], .bool is]) ∧ Below u.heap.size u w') from by have := hac.out u v M h hMl; rw [← hxx, ← his] at this; exact this)
        have hqa := Lib.hid (fun (u : World) (v : Value) (h : Slc ascEnc 5 u v M) => show Calls Try.prog 10 #[v, .int .u64 s] u (fun e w' => e = .returned (.tuple #[.agg #[.int .u32 xf, .string xg, .string xb], .bool is]) ∧ Below u.heap.size u w') from by have := hra.out u v M h hMl; rw [← hxx, ← his] at this; exact this)
        clear hxx his
        have qE := fun (u : World) => xid_neq u xf xf xg xb xg xb
        simp only [show ((xf, xg, xb) != (xf, xg, xb)) = false by rw [bne, xid_self (xf, xg, xb)]; rfl] at qE
        go_wp2_with (first | (go_at_call 20; (with_reducible refine (hp.out _ _ ha0).mono ?_); rintro e w1 ⟨r1, rfl, hO1, hB1⟩; have hT1 := hT0.trans (hB1.mono hT0.size); have hc1 := hO1.slc ascEnc_len; have ha1 := ha0.pure hB1; have hb1 := hb0.pure hB1; have bx1 := bx0.pure hB1; clear bx_c0 bx_c1 bx_c2 bx_c3 bx_c4; have bx_c0 := bx1.at 0 rfl; have bx_c1 := bx1.at 1 rfl; have bx_c2 := bx1.at 2 rfl; have bx_c3 := bx1.at 3 rfl; have bx_c4 := bx1.at 4 rfl) | (go_at_call 21; (with_reducible refine (hq.out _ _ hb1).mono ?_); rintro e w2 ⟨r2, rfl, hO2, hB2⟩; have hT2 := hT1.trans (hB2.mono hT1.size); have hd2 := hO2.slc ascEnc_len; have ha2 := ha1.pure hB2; have hb2 := hb1.pure hB2; have hc2 := hc1.pure hB2; have bx2 := bx1.pure hB2; clear bx_c0 bx_c1 bx_c2 bx_c3 bx_c4; have bx_c0 := bx2.at 0 rfl; have bx_c1 := bx2.at 1 rfl; have bx_c2 := bx2.at 2 rfl; have bx_c3 := bx2.at 3 rfl; have bx_c4 := bx2.at 4 rfl) | (go_at_call 22; (with_reducible refine (same_eq _ _ _ M hc2 hd2 hMl).mono ?_); rintro e w3 ⟨rfl, hB3⟩; have hT3 := hT2.trans (hB3.mono hT2.size); have ha3 := ha2.pure hB3; have hb3 := hb2.pure hB3; have hc3 := hc2.pure hB3; have hd3 := hd2.pure hB3; have bx3 := bx2.pure hB3; clear bx_c0 bx_c1 bx_c2 bx_c3 bx_c4; have bx_c0 := bx3.at 0 rfl; have bx_c1 := bx3.at 1 rfl; have bx_c2 := bx3.at 2 rfl; have bx_c3 := bx3.at 3 rfl; have bx_c4 := bx3.at 4 rfl) | (go_at_call 14; (with_reducible refine (hck.out _ _ hc3).mono ?_); rintro e w4 ⟨rfl, hB4⟩; have hT4 := hT3.trans (hB4.mono hT3.size); have ha4 := ha3.pure hB4; have hb4 := hb3.pure hB4; have hc4 := hc3.pure hB4; have hd4 := hd3.pure hB4; have bx4 := bx3.pure hB4; clear bx_c0 bx_c1 bx_c2 bx_c3 bx_c4; have bx_c0 := bx4.at 0 rfl; have bx_c1 := bx4.at 1 rfl; have bx_c2 := bx4.at 2 rfl; have bx_c3 := bx4.at 3 rfl; have bx_c4 := bx4.at 4 rfl) | (go_at_call 9; (with_reducible refine (hpa.out _ _ hc4).mono ?_); rintro e w5 ⟨rfl, hB5⟩; have hT5 := hT4.trans (hB5.mono hT4.size); have ha5 := ha4.pure hB5; have hb5 := hb4.pure hB5; have hc5 := hc4.pure hB5; have hd5 := hd4.pure hB5; have bx5 := bx4.pure hB5; clear bx_c0 bx_c1 bx_c2 bx_c3 bx_c4; have hS_5 := hT5.size; have hT5 := hT5.alloc hS_5 (.cells #[.int .u32 xf, .string xg, .string xb] 26); have ha5 := ha5.pure ((Below.refl _ _).alloc (Nat.le_refl _) (.cells #[.int .u32 xf, .string xg, .string xb] 26)); have hb5 := hb5.pure ((Below.refl _ _).alloc (Nat.le_refl _) (.cells #[.int .u32 xf, .string xg, .string xb] 26)); have hc5 := hc5.pure ((Below.refl _ _).alloc (Nat.le_refl _) (.cells #[.int .u32 xf, .string xg, .string xb] 26)); have hd5 := hd5.pure ((Below.refl _ _).alloc (Nat.le_refl _) (.cells #[.int .u32 xf, .string xg, .string xb] 26)); have bx5 := bx5.alloc (.cells #[.int .u32 xf, .string xg, .string xb] 26); have by5 := Blk.new w5 [.int .u32 xf, .string xg, .string xb] 26; have bx_c0 := bx5.at 0 rfl; have bx_c1 := bx5.at 1 rfl; have bx_c2 := bx5.at 2 rfl; have bx_c3 := bx5.at 3 rfl; have bx_c4 := bx5.at 4 rfl; have by_c0 := by5.at 0 rfl; have by_c1 := by5.at 1 rfl; have by_c2 := by5.at 2 rfl) | (go_at_call 10; (with_reducible refine (hqa.out _ _ hd5).mono ?_); rintro e w6 ⟨rfl, hB6⟩; have hT6 := hT5.trans (hB6.mono hT5.size); have ha6 := ha5.pure hB6; have hb6 := hb5.pure hB6; have hc6 := hc5.pure hB6; have hd6 := hd5.pure hB6; have bx6 := bx5.pure hB6; have by6 := by5.pure hB6; clear bx_c0 bx_c1 bx_c2 bx_c3 bx_c4 by_c0 by_c1 by_c2; have hS_6 := hT6.size; have hT6 := hT6.alloc hS_6 (.cells #[.int .u32 xf, .string xg, .string xb] 26); have ha6 := ha6.pure ((Below.refl _ _).alloc (Nat.le_refl _) (.cells #[.int .u32 xf, .string xg, .string xb] 26)); have hb6 := hb6.pure ((Below.refl _ _).alloc (Nat.le_refl _) (.cells #[.int .u32 xf, .string xg, .string xb] 26)); have hc6 := hc6.pure ((Below.refl _ _).alloc (Nat.le_refl _) (.cells #[.int .u32 xf, .string xg, .string xb] 26)); have hd6 := hd6.pure ((Below.refl _ _).alloc (Nat.le_refl _) (.cells #[.int .u32 xf, .string xg, .string xb] 26)); have bx6 := bx6.alloc (.cells #[.int .u32 xf, .string xg, .string xb] 26); have by6 := by6.alloc (.cells #[.int .u32 xf, .string xg, .string xb] 26); have bz6 := Blk.new w6 [.int .u32 xf, .string xg, .string xb] 26; have bx_c0 := bx6.at 0 rfl; have bx_c1 := bx6.at 1 rfl; have bx_c2 := bx6.at 2 rfl; have bx_c3 := bx6.at 3 rfl; have bx_c4 := bx6.at 4 rfl; have by_c0 := by6.at 0 rfl; have by_c1 := by6.at 1 rfl; have by_c2 := by6.at 2 rfl; have bz_c0 := bz6.at 0 rfl; have bz_c1 := bz6.at 1 rfl; have bz_c2 := bz6.at 2 rfl))
        go_roundw
        case rel => exact ⟨k + 1, M, by omega, by omega, by go_num, by omega, hc6, hd6, hT6⟩
        case measure => simp [intOf]; omega
      · as_aux_lemma =>
        have hcb : (c == 0) = false := beq_eq_false_iff_ne.2 hc0
        clear hrow hc0
        obtain ⟨⟨xf, xg, xb⟩, hxx⟩ : ∃ x, x = optX (actA L s) := ⟨_, rfl⟩
        obtain ⟨is, his⟩ : ∃ is, is = (actA L s).isSome := ⟨_, rfl⟩
        have hpa := Lib.hid (fun (u : World) (v : Value) (h : Slc ascEnc 5 u v L) => show Calls Try.prog 9 #[v, .int .u64 s] u (fun e w' => e = .returned (.tuple #[.agg #[.int .u32 xf, .string xg, .string xb], .bool is]) ∧ Below u.heap.size u w') from by have := hac.out u v L h hL; rw [← hxx, ← his] at this; exact this)
        have hqa := Lib.hid (fun (u : World) (v : Value) (h : Slc ascEnc 5 u v L) => show Calls Try.prog 10 #[v, .int .u64 s] u (fun e w' => e = .returned (.tuple #[.agg #[.int .u32 xf, .string xg, .string xb], .bool is]) ∧ Below u.heap.size u w') from by have := hra.out u v L h hL; rw [← hxx, ← his] at this; exact this)
        clear hxx his
        have qE := fun (u : World) => xid_neq u xf xf xg xb xg xb
        simp only [show ((xf, xg, xb) != (xf, xg, xb)) = false by rw [bne, xid_self (xf, xg, xb)]; rfl] at qE
        go_wp2_with (first | (go_at_call 20; (with_reducible refine (hp.out _ _ ha0).mono ?_); rintro e w1 ⟨r1, rfl, hO1, hB1⟩; have hT1 := hT0.trans (hB1.mono hT0.size); have hc1 := hO1.slc ascEnc_len; have ha1 := ha0.pure hB1; have hb1 := hb0.pure hB1; have bx1 := bx0.pure hB1; clear bx_c0 bx_c1 bx_c2 bx_c3 bx_c4; have bx_c0 := bx1.at 0 rfl; have bx_c1 := bx1.at 1 rfl; have bx_c2 := bx1.at 2 rfl; have bx_c3 := bx1.at 3 rfl; have bx_c4 := bx1.at 4 rfl) | (go_at_call 21; (with_reducible refine (hq.out _ _ hb1).mono ?_); rintro e w2 ⟨r2, rfl, hO2, hB2⟩; have hT2 := hT1.trans (hB2.mono hT1.size); have hd2 := hO2.slc ascEnc_len; have ha2 := ha1.pure hB2; have hb2 := hb1.pure hB2; have hc2 := hc1.pure hB2; have bx2 := bx1.pure hB2; clear bx_c0 bx_c1 bx_c2 bx_c3 bx_c4; have bx_c0 := bx2.at 0 rfl; have bx_c1 := bx2.at 1 rfl; have bx_c2 := bx2.at 2 rfl; have bx_c3 := bx2.at 3 rfl; have bx_c4 := bx2.at 4 rfl) | (go_at_call 22; (with_reducible refine (same_eq _ _ _ M hc2 hd2 hMl).mono ?_); rintro e w3 ⟨rfl, hB3⟩; have hT3 := hT2.trans (hB3.mono hT2.size); have ha3 := ha2.pure hB3; have hb3 := hb2.pure hB3; have hc3 := hc2.pure hB3; have hd3 := hd2.pure hB3; have bx3 := bx2.pure hB3; clear bx_c0 bx_c1 bx_c2 bx_c3 bx_c4; have bx_c0 := bx3.at 0 rfl; have bx_c1 := bx3.at 1 rfl; have bx_c2 := bx3.at 2 rfl; have bx_c3 := bx3.at 3 rfl; have bx_c4 := bx3.at 4 rfl) | (go_at_call 9; (with_reducible refine (hpa.out _ _ ha3).mono ?_); rintro e w4 ⟨rfl, hB4⟩; have hT4 := hT3.trans (hB4.mono hT3.size); have ha4 := ha3.pure hB4; have hb4 := hb3.pure hB4; have hc4 := hc3.pure hB4; have hd4 := hd3.pure hB4; have bx4 := bx3.pure hB4; clear bx_c0 bx_c1 bx_c2 bx_c3 bx_c4; have hS_4 := hT4.size; have hT4 := hT4.alloc hS_4 (.cells #[.int .u32 xf, .string xg, .string xb] 26); have ha4 := ha4.pure ((Below.refl _ _).alloc (Nat.le_refl _) (.cells #[.int .u32 xf, .string xg, .string xb] 26)); have hb4 := hb4.pure ((Below.refl _ _).alloc (Nat.le_refl _) (.cells #[.int .u32 xf, .string xg, .string xb] 26)); have hc4 := hc4.pure ((Below.refl _ _).alloc (Nat.le_refl _) (.cells #[.int .u32 xf, .string xg, .string xb] 26)); have hd4 := hd4.pure ((Below.refl _ _).alloc (Nat.le_refl _) (.cells #[.int .u32 xf, .string xg, .string xb] 26)); have bx4 := bx4.alloc (.cells #[.int .u32 xf, .string xg, .string xb] 26); have by4 := Blk.new w4 [.int .u32 xf, .string xg, .string xb] 26; have bx_c0 := bx4.at 0 rfl; have bx_c1 := bx4.at 1 rfl; have bx_c2 := bx4.at 2 rfl; have bx_c3 := bx4.at 3 rfl; have bx_c4 := bx4.at 4 rfl; have by_c0 := by4.at 0 rfl; have by_c1 := by4.at 1 rfl; have by_c2 := by4.at 2 rfl) | (go_at_call 10; (with_reducible refine (hqa.out _ _ hb4).mono ?_); rintro e w5 ⟨rfl, hB5⟩; have hT5 := hT4.trans (hB5.mono hT4.size); have ha5 := ha4.pure hB5; have hb5 := hb4.pure hB5; have hc5 := hc4.pure hB5; have hd5 := hd4.pure hB5; have bx5 := bx4.pure hB5; have by5 := by4.pure hB5; clear bx_c0 bx_c1 bx_c2 bx_c3 bx_c4 by_c0 by_c1 by_c2; have hS_5 := hT5.size; have hT5 := hT5.alloc hS_5 (.cells #[.int .u32 xf, .string xg, .string xb] 26); have ha5 := ha5.pure ((Below.refl _ _).alloc (Nat.le_refl _) (.cells #[.int .u32 xf, .string xg, .string xb] 26)); have hb5 := hb5.pure ((Below.refl _ _).alloc (Nat.le_refl _) (.cells #[.int .u32 xf, .string xg, .string xb] 26)); have hc5 := hc5.pure ((Below.refl _ _).alloc (Nat.le_refl _) (.cells #[.int .u32 xf, .string xg, .string xb] 26)); have hd5 := hd5.pure ((Below.refl _ _).alloc (Nat.le_refl _) (.cells #[.int .u32 xf, .string xg, .string xb] 26)); have bx5 := bx5.alloc (.cells #[.int .u32 xf, .string xg, .string xb] 26); have by5 := by5.alloc (.cells #[.int .u32 xf, .string xg, .string xb] 26); have bz5 := Blk.new w5 [.int .u32 xf, .string xg, .string xb] 26; have bx_c0 := bx5.at 0 rfl; have bx_c1 := bx5.at 1 rfl; have bx_c2 := bx5.at 2 rfl; have bx_c3 := bx5.at 3 rfl; have bx_c4 := bx5.at 4 rfl; have by_c0 := by5.at 0 rfl; have by_c1 := by5.at 1 rfl; have by_c2 := by5.at 2 rfl; have bz_c0 := bz5.at 0 rfl; have bz_c1 := bz5.at 1 rfl; have bz_c2 := bz5.at 2 rfl))
        go_roundw
        case rel => exact ⟨k + 1, L, by omega, by omega, by go_num, by omega, ha5, hb5, hT5⟩
        case measure => simp [intOf]; omega
end Go.Proofs.Ytfjpdikaodojhaa
