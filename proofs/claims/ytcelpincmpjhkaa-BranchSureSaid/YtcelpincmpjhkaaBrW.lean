/- Chapter 19: what the head's calls come to, in plain lists. Conditions: none. -/
import Derived.Test.YtcelpincmpjhkaaBrU
import Derived.Test.YtcelpincmpjhkaaBrR
import Derived.Test.YtcelpincmpjhkaaBrV
namespace Go.Proofs.Ytcelpincmpjhkaa
open Go.RowKit
set_option linter.unusedVariables false

theorem may_yes {L : List Asc} {s : Int} {x : Xid} (h : RowA L) (hs : s ≠ 0) (hx : XidOk x) : mayN L s x = 0 := by
  unfold mayN; rw [rowE_yes h, if_neg (by simp), if_neg hs, if_pos hx]
theorem start_no {L : List Asc} {s : Int} {x : Xid} {i : Nat} (h : RowA L) (hs : s ≠ 0) (hx : XidOk x) (ha : actA L s = none) (hm : ¬ Mem L s x) (hp : PlaceA L (s, x, false) i) :
    startF L s x = (insA L i (s, x, false), 0) := by
  unfold startF
  rw [if_pos (may_yes h hs hx), ha, idx_no hm, place_eq hp]; rfl
theorem act_eq {L : List Asc} (h : RowA L) (s : Int) : actA L s = (L.find? (fun a => a.1 == s && !a.2.2)).map (fun a => a.2.1) := by unfold actA; rw [if_pos (rowE_yes h)]
def hdX : Xid := (0, ⟨#[120]⟩, ⟨#[]⟩)
def hb1 : Brn := ⟨hdX, 1, 0, 0, 0⟩
def hb2 : Brn := ⟨hdX, 2, 0, 0, 0⟩
def haX : Asc := (1, hdX, false)
theorem xok_x : XidOk hdX := by decide
theorem rok1 : RowOk hb1 := by decide
theorem rok2 : RowOk hb2 := by decide
theorem rowX : RowA [haX] := ⟨fun a ha => by rw [List.mem_singleton.1 ha]; exact ⟨by simp [haX], xok_x⟩, List.pairwise_singleton _ _⟩
theorem tab_one {b : Brn} (h : RowOk b) : TabOk [b] [] := ⟨⟨fun a ha => by rw [List.mem_singleton.1 ha]; exact h, List.pairwise_singleton _ _⟩, RowA.nil, fun a ha => absurd ha (by simp)⟩
theorem tab_none : TabOk [] [] := ⟨⟨fun a ha => absurd ha (by simp), List.Pairwise.nil⟩, RowA.nil, fun a ha => absurd ha (by simp)⟩
theorem tab_both : TabOk [hb1] [haX] := ⟨(tab_one rok1).1, rowX, fun a ha => by rw [List.mem_singleton.1 ha]; exact ⟨hb1, by simp, rfl, rfl⟩⟩
theorem mayB_yes {R : List Brn} {A : List Asc} {x : Xid} (h : TabOk R A) (hx : XidOk x) : mayB R A true x = 0 := by
  unfold mayB; rw [tabE_yes h]; simp [hx]
theorem overB_zero (D : Res) : overB 0 D = D := rfl
theorem idx_one (b : Brn) : idxB [b] b.x = some 0 := idxB_yes (List.pairwise_singleton _ _) (by simp) rfl
theorem hd1 : overB (mayB [] [] (okS 1 false false) hdX) (startD [] [] 1 hdX false false) = ([hb1], [haX], 0, 0) := by
  rw [show okS 1 false false = true by decide, mayB_yes tab_none xok_x, overB_zero]
  have e : startF [] 1 hdX = ([haX], 0) := by
    rw [start_no (i := 0) RowA.nil (by omega) xok_x (by rw [act_eq RowA.nil]; rfl) (fun ⟨k, h, _⟩ => by simp at h) ⟨by simp, fun j h => by simp at h, fun j h => by simp at h⟩]; rfl
  have hp : placeM [] hdX = 0 := placeB_eq ⟨by simp, fun j h => by simp at h, fun j h => by simp at h⟩
  unfold startD
  rw [if_neg (by rw [act_eq RowA.nil]; simp), if_pos ⟨rfl, rfl⟩, idxB_no (fun ⟨k, h, _⟩ => by simp at h), e, hp]
  rfl
theorem hd2 : overB (mayB [hb1] [haX] true hdX) (prepareD [hb1] [haX] hdX false) = errR 9 := by
  rw [mayB_yes tab_both xok_x, overB_zero]
  have hc : cntA [haX] hdX > 0 := by unfold cntA; rw [if_pos (rowE_yes rowX)]; decide
  unfold prepareD
  rw [show idxB [hb1] hdX = some 0 from idx_one hb1]
  simp only
  rw [if_pos (Or.inr hc)]
theorem hd3 : overB (mayB [hb1] [haX] (okS 1 false false) hdX) (endD [hb1] [haX] 1 hdX false false) = ([hb1], [], 0, 0) := by
  rw [show okS 1 false false = true by decide, mayB_yes tab_both xok_x, overB_zero]
  have hi : idxA [haX] 1 hdX = some 0 := idx_yes (s := 1) (x := hdX) (k := 0) rowX.rises (by simp) rfl
  have e : endF [haX] 1 hdX = ([], 0) := by unfold endF; rw [if_pos (may_yes rowX (by omega) xok_x), hi]; rfl
  unfold endD
  rw [show idxB [hb1] hdX = some 0 from idx_one hb1, hi]
  simp only
  rw [if_neg (by simp), if_neg (by simp), if_neg (by simp), e]
  rfl
theorem hd4 : overB (mayB [hb1] [] true hdX) (prepareD [hb1] [] hdX false) = ([hb2], [], 0, 0) := by
  rw [mayB_yes (tab_one rok1) xok_x, overB_zero]
  have hc : cntA [] hdX = 0 := by unfold cntA; rw [if_pos (rowE_yes RowA.nil)]; rfl
  unfold prepareD
  rw [show idxB [hb1] hdX = some 0 from idx_one hb1]
  simp only
  rw [if_neg (by rw [hc]; simp [hb1]), if_neg (by simp [hb1]), if_neg (by simp)]
  rfl
theorem hd5 : overB (mayB [hb2] [] true hdX) (commitD [hb2] [] hdX true) = errR 9 := by
  rw [mayB_yes (tab_one rok2) xok_x, overB_zero]
  unfold commitD
  rw [show idxB [hb2] hdX = some 0 from idx_one hb2]
  simp only
  rw [if_neg (by simp [hb2, answerD]), if_pos (Or.inl (by simp [hb2]))]
theorem hd6 : recD [hb2] [] = [hdX] := by
  unfold recD; rw [if_pos (tab_one rok2)]; rfl
end Go.Proofs.Ytcelpincmpjhkaa
