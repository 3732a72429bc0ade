/- Chapter 18: what the head's calls come to, in plain lists. Conditions: none. -/
import Derived.Test.YtfjpdikaodojhaaAssocU
namespace Go.Proofs.Ytfjpdikaodojhaa
open Go.RowKit
set_option linter.unusedVariables false

def hdA : Xid := (0, ⟨#[97]⟩, ⟨#[]⟩)
def hdB : Xid := (0, ⟨#[98]⟩, ⟨#[]⟩)
def tA (z : Bool) : Asc := (1, hdA, z)
def tB : Asc := (1, hdB, false)
theorem cmp_ab (z : Bool) : cmpA (tA z) tB < 0 := by cases z <;> decide
theorem xok_a : XidOk hdA := by decide
theorem xok_b : XidOk hdB := by decide
theorem row1 (z : Bool) : RowA [tA z] := ⟨fun a ha => by rw [List.mem_singleton.1 ha]; exact ⟨by simp [tA], xok_a⟩, List.pairwise_singleton _ _⟩
theorem row2 : RowA [tA true, tB] := ⟨fun a ha => by
  rcases List.mem_cons.1 ha with h | h
  · rw [h]; exact ⟨by simp [tA], xok_a⟩
  · rw [List.mem_singleton.1 h]; exact ⟨by simp [tB], xok_b⟩, by
  rw [List.pairwise_cons]; exact ⟨fun b hb => by rw [List.mem_singleton.1 hb]; exact ⟨cmp_ab _, fun _ => .inl rfl⟩, List.pairwise_singleton _ _⟩⟩
theorem may_yes {L : List Asc} {s : Int} {x : Xid} (h : RowA L) (hs : s ≠ 0) (hx : XidOk x) : mayN L s x = 0 := by
  unfold mayN; rw [rowE_yes h, if_neg (by simp), if_neg hs, if_pos hx]
theorem start_no {L : List Asc} {s : Int} {x : Xid} {i : Nat} (h : RowA L) (hs : s ≠ 0) (hx : XidOk x) (ha : actA L s = none) (hm : ¬ Mem L s x) (hp : PlaceA L (s, x, false) i) :
    startF L s x = (insA L i (s, x, false), 0) := by
  unfold startF
  rw [if_pos (may_yes h hs hx), ha, idx_no hm, place_eq hp]; rfl
theorem act_eq {L : List Asc} (h : RowA L) (s : Int) : actA L s = (L.find? (fun a => a.1 == s && !a.2.2)).map (fun a => a.2.1) := by unfold actA; rw [if_pos (rowE_yes h)]
theorem head1 : startF [] 1 hdA = ([tA false], 0) := by
  rw [start_no (i := 0) RowA.nil (by omega) xok_a (by rw [act_eq RowA.nil]; rfl) (fun ⟨k, h, _⟩ => by simp at h) ⟨by simp, fun j h => by simp at h, fun j h => by simp at h⟩]; rfl
theorem head2 : startF [tA false] 1 hdB = ([], 9) := by
  unfold startF
  rw [if_pos (may_yes (row1 _) (by omega) xok_b), act_eq (row1 _)]; rfl
theorem head3 : suspendF [tA false] 1 hdA = ([tA true], 0) := by
  unfold suspendF
  rw [if_pos (may_yes (row1 _) (by omega) xok_a), idx_yes (s := 1) (x := hdA) (k := 0) (row1 _).rises (by simp) rfl]; rfl
theorem head4 : startF [tA true] 1 hdB = ([tA true, tB], 0) := by
  rw [start_no (i := 1) (row1 _) (by omega) xok_b (by rw [act_eq (row1 _)]; rfl) (fun ⟨k, h, e⟩ => by
    simp at h; subst h; exact absurd (show keyA (tA true) = (1, hdB) from e) (by decide)) ⟨by simp, fun j h _ => by simp at h; subst h; exact cmp_ab _, fun j h h2 => by simp at h; omega⟩]; rfl
theorem head5 : actA [tA true, tB] 1 = some hdB := by rw [act_eq row2]; rfl
theorem head6 : cntA [tA true, tB] hdA = 1 := by
  unfold cntA; rw [if_pos (rowE_yes row2)]; decide
end Go.Proofs.Ytfjpdikaodojhaa
