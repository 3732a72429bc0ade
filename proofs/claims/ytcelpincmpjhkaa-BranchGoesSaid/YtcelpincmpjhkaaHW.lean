/- Chapter 19: the head, great. Conditions: none. Written by gen_brX.py. (Texts joined; the heads of the others stand below.) -/
import Derived.Test.YtcelpincmpjhkaaBrU
import Derived.Test.YtcelpincmpjhkaaBrR
import Derived.Test.YtcelpincmpjhkaaBrV

/- Chapter 19: what the head's calls come to, in plain lists. Conditions: none. -/
namespace Go.Proofs.Ytcelpincmpjhkaa
set_option linter.unusedSimpArgs false
set_option linter.unusedVariables false
open Go.RowKit

theorem may_yes {L : List Asc} {s : Int} {x : Xid} (h : RowA L) (hs : s ≠ 0) (hx : XidOk x) : mayN L s x = 0 := by
  unfold mayN; rw [rowE_yes h, if_neg (by simp), if_neg hs, if_pos hx]
theorem start_no {L : List Asc} {s : Int} {x : Xid} {i : Nat} (h : RowA L) (hs : s ≠ 0) (hx : XidOk x) (ha : actA L s = none) (hm : ¬ Mem L s x) (hp : PlaceA L (s, x, false) i) :
    startF L s x = (insA L i (s, x, false), 0) := by
  unfold startF
  rw [if_pos (may_yes h hs hx), ha, idx_no hm, place_eq hp]; rfl
theorem act_eq {L : List Asc} (h : RowA L) (s : Int) : actA L s = (L.find? (fun a => a.1 == s && !a.2.2)).map (fun a => a.2.1) := by unfold actA; rw [if_pos (rowE_yes h)]
def hdX : Xid := (0, ⟨#[120]⟩, ⟨#[]⟩)
def hb1 : Brn := ⟨hdX, 1, 0, 0, 0⟩
def hb2 : Brn := ⟨hdX, 2, 0, 0, 0⟩
def haX : Asc := (1, hdX, false)
theorem xok_x : XidOk hdX := by decide
theorem rok1 : RowOk hb1 := by decide
theorem rok2 : RowOk hb2 := by decide
theorem rowX : RowA [haX] := ⟨fun a ha => by rw [List.mem_singleton.1 ha]; exact ⟨by simp [haX], xok_x⟩, List.pairwise_singleton _ _⟩
theorem tab_one {b : Brn} (h : RowOk b) : TabOk [b] [] := ⟨⟨fun a ha => by rw [List.mem_singleton.1 ha]; exact h, List.pairwise_singleton _ _⟩, RowA.nil, fun a ha => absurd ha (by simp)⟩
theorem tab_none : TabOk [] [] := ⟨⟨fun a ha => absurd ha (by simp), List.Pairwise.nil⟩, RowA.nil, fun a ha => absurd ha (by simp)⟩
theorem tab_both : TabOk [hb1] [haX] := ⟨(tab_one rok1).1, rowX, fun a ha => by rw [List.mem_singleton.1 ha]; exact ⟨hb1, by simp, rfl, rfl⟩⟩
theorem mayB_yes {R : List Brn} {A : List Asc} {x : Xid} (h : TabOk R A) (hx : XidOk x) : mayB R A true x = 0 := by
  unfold mayB; rw [tabE_yes h]; simp [hx]
theorem overB_zero (D : Res) : overB 0 D = D := rfl
theorem idx_one (b : Brn) : idxB [b] b.x = some 0 := idxB_yes (List.pairwise_singleton _ _) (by simp) rfl
theorem hd1 : overB (mayB [] [] (okS 1 false false) hdX) (startD [] [] 1 hdX false false) = ([hb1], [haX], 0, 0) := by
  rw [show okS 1 false false = true by decide, mayB_yes tab_none xok_x, overB_zero]
  have e : startF [] 1 hdX = ([haX], 0) := by
    rw [start_no (i := 0) RowA.nil (by omega) xok_x (by rw [act_eq RowA.nil]; rfl) (fun ⟨k, h, _⟩ => by simp at h) ⟨by simp, fun j h => by simp at h, fun j h => by simp at h⟩]; rfl
  have hp : placeM [] hdX = 0 := placeB_eq ⟨by simp, fun j h => by simp at h, fun j h => by simp at h⟩
  unfold startD
  rw [if_neg (by rw [act_eq RowA.nil]; simp), if_pos ⟨rfl, rfl⟩, idxB_no (fun ⟨k, h, _⟩ => by simp at h), e, hp]
  rfl
theorem hd2 : overB (mayB [hb1] [haX] true hdX) (prepareD [hb1] [haX] hdX false) = errR 9 := by
  rw [mayB_yes tab_both xok_x, overB_zero]
  have hc : cntA [haX] hdX > 0 := by unfold cntA; rw [if_pos (rowE_yes rowX)]; decide
  unfold prepareD
  rw [show idxB [hb1] hdX = some 0 from idx_one hb1]
  simp only
  rw [if_pos (Or.inr hc)]
theorem hd3 : overB (mayB [hb1] [haX] (okS 1 false false) hdX) (endD [hb1] [haX] 1 hdX false false) = ([hb1], [], 0, 0) := by
  rw [show okS 1 false false = true by decide, mayB_yes tab_both xok_x, overB_zero]
  have hi : idxA [haX] 1 hdX = some 0 := idx_yes (s := 1) (x := hdX) (k := 0) rowX.rises (by simp) rfl
  have e : endF [haX] 1 hdX = ([], 0) := by unfold endF; rw [if_pos (may_yes rowX (by omega) xok_x), hi]; rfl
  unfold endD
  rw [show idxB [hb1] hdX = some 0 from idx_one hb1, hi]
  simp only
  rw [if_neg (by simp), if_neg (by simp), if_neg (by simp), e]
  rfl
theorem hd4 : overB (mayB [hb1] [] true hdX) (prepareD [hb1] [] hdX false) = ([hb2], [], 0, 0) := by
  rw [mayB_yes (tab_one rok1) xok_x, overB_zero]
  have hc : cntA [] hdX = 0 := by unfold cntA; rw [if_pos (rowE_yes RowA.nil)]; rfl
  unfold prepareD
  rw [show idxB [hb1] hdX = some 0 from idx_one hb1]
  simp only
  rw [if_neg (by rw [hc]; simp [hb1]), if_neg (by simp [hb1]), if_neg (by simp)]
  rfl
theorem hd5 : overB (mayB [hb2] [] true hdX) (commitD [hb2] [] hdX true) = errR 9 := by
  rw [mayB_yes (tab_one rok2) xok_x, overB_zero]
  unfold commitD
  rw [show idxB [hb2] hdX = some 0 from idx_one hb2]
  simp only
  rw [if_neg (by simp [hb2, answerD]), if_pos (Or.inl (by simp [hb2]))]
theorem hd6 : recD [hb2] [] = [hdX] := by
  unfold recD; rw [if_pos (tab_one rok2)]; rfl
end Go.Proofs.Ytcelpincmpjhkaa

/- Chapter 19: the head, great. Conditions: none. Written by gen_brX.py. -/
namespace Go.Proofs.Ytcelpincmpjhkaa
set_option linter.unusedSimpArgs false
set_option linter.unusedVariables false
open Go.RowKit

set_option maxRecDepth 100000 in
set_option maxHeartbeats 6400000 in
theorem bhead_any (w : World) : Calls Try.prog 11 #[] w fun e w' => e = .returned (.bool true) ∧ Below w.heap.size w w' := by
  have h1 := Lib.hid (fun (u : World) => show Calls Try.prog 13 #[.agg #[.slice none 0 0, .slice none 0 0], .int .u64 1, .agg #[.int .u32 0, .string ⟨#[120]⟩, .string ⟨#[]⟩], .bool false, .bool false] u (TabPost u ([hb1], [haX], 0, 0)) from hd1 ▸ start_fn u _ _ [] [] 1 hdX false false (Slc.nil _ _ _) (Slc.nil _ _ _) (by simp) (by simp))
  have h2 := Lib.hid (fun (u : World) (r a : Value) (hr : Slc brEnc 7 u r [hb1]) (ha : Slc ascEnc 5 u a [haX]) => show Calls Try.prog 26 #[.agg #[r, a], .agg #[.int .u32 0, .string ⟨#[120]⟩, .string ⟨#[]⟩], .bool false] u (TabPost u (errR 9)) from hd2 ▸ prepare_fn u r a [hb1] [haX] hdX false hr ha (by simp) (by simp))
  have h3 := Lib.hid (fun (u : World) (r a : Value) (hr : Slc brEnc 7 u r [hb1]) (ha : Slc ascEnc 5 u a [haX]) => show Calls Try.prog 16 #[.agg #[r, a], .int .u64 1, .agg #[.int .u32 0, .string ⟨#[120]⟩, .string ⟨#[]⟩], .bool false, .bool false] u (TabPost u ([hb1], [], 0, 0)) from hd3 ▸ end_fn u r a [hb1] [haX] 1 hdX false false hr ha (by simp) (by simp))
  have h4 := Lib.hid (fun (u : World) (r a : Value) (hr : Slc brEnc 7 u r [hb1]) (ha : Slc ascEnc 5 u a []) => show Calls Try.prog 26 #[.agg #[r, a], .agg #[.int .u32 0, .string ⟨#[120]⟩, .string ⟨#[]⟩], .bool false] u (TabPost u ([hb2], [], 0, 0)) from hd4 ▸ prepare_fn u r a [hb1] [] hdX false hr ha (by simp) (by simp))
  have h5 := Lib.hid (fun (u : World) (r a : Value) (hr : Slc brEnc 7 u r [hb2]) (ha : Slc ascEnc 5 u a []) => show Calls Try.prog 25 #[.agg #[r, a], .agg #[.int .u32 0, .string ⟨#[120]⟩, .string ⟨#[]⟩], .bool true] u (TabPost u (errR 9)) from hd5 ▸ commit_fn u r a [hb2] [] hdX true hr ha (by simp) (by simp))
  have h6 := Lib.hid (fun (u : World) (r a : Value) (hr : Slc brEnc 7 u r [hb2]) (ha : Slc ascEnc 5 u a []) => show Calls Try.prog 23 #[.agg #[r, a]] u (fun e w' => ∃ l, e = .returned l ∧ Own u.heap.size 28 3 xEnc w' l [hdX] ∧ Below u.heap.size u w') from hd6 ▸ recover_fn u r a [hb2] [] hr ha (by simp) (by simp))
  have qE := fun (u : World) => xid_eql u 0 0 ⟨#[120]⟩ ⟨#[]⟩ ⟨#[120]⟩ ⟨#[]⟩
  simp only [show ((0 : Int) == 0 && ((⟨#[120]⟩ : ByteArray) == ⟨#[120]⟩ && (⟨#[]⟩ : ByteArray) == ⟨#[]⟩)) = true by rw [bytes_self, bytes_self]; rfl] at qE
  have hT0 := (Below.refl w.heap.size w).alloc (Nat.le_refl _) (.cells #[.int .u32 0, .string ⟨#[120]⟩, .string ⟨#[]⟩] 28)
  have x0 := Blk.new w [.int .u32 0, .string ⟨#[120]⟩, .string ⟨#[]⟩] 28
  have cx0 := x0.at 0 rfl; have cx1 := x0.at 1 rfl; have cx2 := x0.at 2 rfl
  go_enter Try.func11, Try.ntmps11
  go_wp2_with (first | (go_at_call 13; (with_reducible refine (h1.out _).mono ?_); rintro e w1 ⟨rv1, av1, rfl, hR1, hA1, hB1⟩; obtain ⟨ra1, rc1, rfl⟩ : ∃ a c, rv1 = .slice a 1 c := own_len hR1; obtain ⟨aa1, ac1, rfl⟩ : ∃ a c, av1 = .slice a 1 c := own_len hA1; have hB1s := hB1.alloc hB1.size (.cells #[.slice ra1 1 rc1, .slice aa1 1 ac1] 25); have hT1 := hT0.trans (hB1s.mono hT0.size); have x1 := x0.pure hB1s; have ta1 := Blk.new w1 [.slice ra1 1 rc1, .slice aa1 1 ac1] 25; have hZ1 := (Below.refl w1.heap.size w1).alloc (Nat.le_refl _) (.cells #[.slice ra1 1 rc1, .slice aa1 1 ac1] 25); have hRa1 := (hR1.slc brEnc_len).pure hZ1; have hAa1 := (hA1.slc ascEnc_len).pure hZ1; clear cx0 cx1 cx2; have cx0 := x1.at 0 rfl; have cx1 := x1.at 1 rfl; have cx2 := x1.at 2 rfl; have cta0 := ta1.at 0 rfl; have cta1 := ta1.at 1 rfl) | (go_at_call 26; (with_reducible refine (h2.out _ _ _ hRa1 hAa1).mono ?_); rintro e w2 ⟨rv2, av2, rfl, hR2, hA2, hB2⟩; obtain ⟨ra2, rc2, rfl⟩ : ∃ a c, rv2 = .slice a 0 c := own_len hR2; obtain ⟨aa2, ac2, rfl⟩ : ∃ a c, av2 = .slice a 0 c := own_len hA2; have hB2s := hB2.alloc hB2.size (.cells #[.slice ra2 0 rc2, .slice aa2 0 ac2] 25); have hT2 := hT1.trans (hB2s.mono hT1.size); have x2 := x1.pure hB2s; have ta2 := ta1.pure hB2s; have hRa2 := hRa1.pure hB2s; have hAa2 := hAa1.pure hB2s; clear cx0 cx1 cx2; have cx0 := x2.at 0 rfl; have cx1 := x2.at 1 rfl; have cx2 := x2.at 2 rfl; have cta0 := ta2.at 0 rfl; have cta1 := ta2.at 1 rfl) | (go_at_call 16; (with_reducible refine (h3.out _ _ _ hRa2 hAa2).mono ?_); rintro e w3 ⟨rv3, av3, rfl, hR3, hA3, hB3⟩; obtain ⟨ra3, rc3, rfl⟩ : ∃ a c, rv3 = .slice a 1 c := own_len hR3; obtain ⟨aa3, ac3, rfl⟩ : ∃ a c, av3 = .slice a 0 c := own_len hA3; have hB3s := hB3.alloc hB3.size (.cells #[.slice ra3 1 rc3, .slice aa3 0 ac3] 25); have hT3 := hT2.trans (hB3s.mono hT2.size); have x3 := x2.pure hB3s; have ta3 := ta2.pure hB3s; have hRa3 := hRa2.pure hB3s; have hAa3 := hAa2.pure hB3s; have tb3 := Blk.new w3 [.slice ra3 1 rc3, .slice aa3 0 ac3] 25; have hZ3 := (Below.refl w3.heap.size w3).alloc (Nat.le_refl _) (.cells #[.slice ra3 1 rc3, .slice aa3 0 ac3] 25); have hRb3 := (hR3.slc brEnc_len).pure hZ3; have hAb3 := (hA3.slc ascEnc_len).pure hZ3; clear cx0 cx1 cx2; have cx0 := x3.at 0 rfl; have cx1 := x3.at 1 rfl; have cx2 := x3.at 2 rfl; have cta0 := ta3.at 0 rfl; have cta1 := ta3.at 1 rfl; have ctb0 := tb3.at 0 rfl; have ctb1 := tb3.at 1 rfl) | (go_at_call 26; (with_reducible refine (h4.out _ _ _ hRb3 hAb3).mono ?_); rintro e w4 ⟨rv4, av4, rfl, hR4, hA4, hB4⟩; obtain ⟨ra4, rc4, rfl⟩ : ∃ a c, rv4 = .slice a 1 c := own_len hR4; obtain ⟨aa4, ac4, rfl⟩ : ∃ a c, av4 = .slice a 0 c := own_len hA4; have hB4s := hB4.alloc hB4.size (.cells #[.slice ra4 1 rc4, .slice aa4 0 ac4] 25); have hT4 := hT3.trans (hB4s.mono hT3.size); have x4 := x3.pure hB4s; have ta4 := ta3.pure hB4s; have hRa4 := hRa3.pure hB4s; have hAa4 := hAa3.pure hB4s; have tb4 := tb3.pure hB4s; have hRb4 := hRb3.pure hB4s; have hAb4 := hAb3.pure hB4s; have tc4 := Blk.new w4 [.slice ra4 1 rc4, .slice aa4 0 ac4] 25; have hZ4 := (Below.refl w4.heap.size w4).alloc (Nat.le_refl _) (.cells #[.slice ra4 1 rc4, .slice aa4 0 ac4] 25); have hRc4 := (hR4.slc brEnc_len).pure hZ4; have hAc4 := (hA4.slc ascEnc_len).pure hZ4; clear cx0 cx1 cx2; have cx0 := x4.at 0 rfl; have cx1 := x4.at 1 rfl; have cx2 := x4.at 2 rfl; have cta0 := ta4.at 0 rfl; have cta1 := ta4.at 1 rfl; have ctb0 := tb4.at 0 rfl; have ctb1 := tb4.at 1 rfl; have ctc0 := tc4.at 0 rfl; have ctc1 := tc4.at 1 rfl) | (go_at_call 25; (with_reducible refine (h5.out _ _ _ hRc4 hAc4).mono ?_); rintro e w5 ⟨rv5, av5, rfl, hR5, hA5, hB5⟩; obtain ⟨ra5, rc5, rfl⟩ : ∃ a c, rv5 = .slice a 0 c := own_len hR5; obtain ⟨aa5, ac5, rfl⟩ : ∃ a c, av5 = .slice a 0 c := own_len hA5; have hB5s := hB5.alloc hB5.size (.cells #[.slice ra5 0 rc5, .slice aa5 0 ac5] 25); have hT5 := hT4.trans (hB5s.mono hT4.size); have x5 := x4.pure hB5s; have ta5 := ta4.pure hB5s; have hRa5 := hRa4.pure hB5s; have hAa5 := hAa4.pure hB5s; have tb5 := tb4.pure hB5s; have hRb5 := hRb4.pure hB5s; have hAb5 := hAb4.pure hB5s; have tc5 := tc4.pure hB5s; have hRc5 := hRc4.pure hB5s; have hAc5 := hAc4.pure hB5s; clear cx0 cx1 cx2; have cx0 := x5.at 0 rfl; have cx1 := x5.at 1 rfl; have cx2 := x5.at 2 rfl; have cta0 := ta5.at 0 rfl; have cta1 := ta5.at 1 rfl; have ctb0 := tb5.at 0 rfl; have ctb1 := tb5.at 1 rfl; have ctc0 := tc5.at 0 rfl; have ctc1 := tc5.at 1 rfl) | (go_at_call 23; (with_reducible refine (h6.out _ _ _ hRc5 hAc5).mono ?_); rintro e w6 ⟨l, rfl, hL, hB6⟩; obtain ⟨la, lc, rfl, hl1, hl2⟩ := hL.shape (by simp); have hT6 := hT5.trans (hB6.mono hT5.size); have x6 := x5.pure hB6; have l0 : w6.cell? ⟨la, 0, none⟩ = _ := hL.cell xEnc_len 0 (by simp) 0 (.int .u32 0) rfl; have l1 : w6.cell? ⟨la, 1, none⟩ = _ := hL.cell xEnc_len 0 (by simp) 1 (.string ⟨#[120]⟩) rfl; have l2 : w6.cell? ⟨la, 2, none⟩ = _ := hL.cell xEnc_len 0 (by simp) 2 (.string ⟨#[]⟩) rfl; clear cx0 cx1 cx2; have cx0 := x6.at 0 rfl; have cx1 := x6.at 1 rfl; have cx2 := x6.at 2 rfl; simp only [List.length_singleton]))
  go_quiet (fail)
  go_wp2
  go_ret
  exact ⟨rfl, below_drewN hT6 _⟩

theorem great_any (w : World) (rv av : Value) (R : List Brn) (A : List Asc) (b : Bool) (hR : Slc brEnc 7 w rv R) (hA : Slc ascEnc 5 w av A) (hb : (decide (20 < R.length) || decide (20 < A.length)) = b) :
    Calls Try.prog 10 #[.agg #[rv, av]] w fun e w' => e = .returned (.bool b) ∧ Below w.heap.size w w' := by
  obtain ⟨ra, rc, rfl, -⟩ := hR.len
  obtain ⟨aa, ac, rfl, -⟩ := hA.len
  have hT0 := (Below.refl w.heap.size w).alloc (Nat.le_refl _) (.cells #[.slice ra R.length rc, .slice aa A.length ac] 25)
  have t0 := Blk.new w [.slice ra R.length rc, .slice aa A.length ac] 25
  have c0 := t0.at 0 rfl; have c1 := t0.at 1 rfl
  subst hb
  by_cases h1 : 20 < R.length
  · have h1i : decide ((20 : Int) < (R.length : Int)) = true := decide_eq_true (by omega)
    have e : (decide (20 < R.length) || decide (20 < A.length)) = true := by simp [h1]
    rw [e]; clear e h1
    go_enter Try.func10, Try.ntmps10
    go_wp2
    go_ret
    exact ⟨rfl, hT0⟩
  · have h1i : decide ((20 : Int) < (R.length : Int)) = false := decide_eq_false (by omega)
    have e : (decide (20 < R.length) || decide (20 < A.length)) = decide (20 < A.length) := by simp [h1]
    rw [e]
    by_cases h2 : 20 < A.length
    · have h2i : decide ((20 : Int) < (A.length : Int)) = true := decide_eq_true (by omega)
      rw [decide_eq_true h2]; clear e h1 h2
      go_enter Try.func10, Try.ntmps10
      go_wp2
      go_ret
      exact ⟨rfl, hT0⟩
    · have h2i : decide ((20 : Int) < (A.length : Int)) = false := decide_eq_false (by omega)
      rw [decide_eq_false h2]; clear e h1 h2
      go_enter Try.func10, Try.ntmps10
      go_wp2
      go_ret
      exact ⟨rfl, hT0⟩
end Go.Proofs.Ytcelpincmpjhkaa
