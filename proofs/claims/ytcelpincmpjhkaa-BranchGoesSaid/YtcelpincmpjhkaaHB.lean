/- Chapter 19: how the laws' arguments are opened: rows of branches, tables. Conditions: none. (Texts joined; the heads of the others stand below.) -/
import Derived.Test.YtcelpincmpjhkaaHA
import Derived.Test.YtcelpincmpjhkaaGC
import Derived.Test.YtcelpincmpjhkaaGA
import Derived.ProofKit
import Derived.OpenShut

/- slices.Clone at []api.Branch. Conditions: the slice reads as rows; at most a million. Written by gen_clone.py. -/
namespace Go.Proofs.Ytcelpincmpjhkaa
set_option linter.unusedSimpArgs false
set_option linter.unusedVariables false
open Go.RowKit

theorem br_eql_nil (w : World) (a : Option Addr) (n c : Nat) : (binOp .eql 22 (.slice a n c) (.slice none 0 0)).run Try.prog w = .ok (.bool a.isNone) w := Lib.run_eql_slice_nil w _ _ a n c 0 0 Try.underlying22

set_option maxHeartbeats 800000 in
theorem br_clone (w : World) (v : Value) (L : List Brn) (h : Slc brEnc 7 w v L) (hL : L.length ≤ 1000000) :
    Calls Try.prog 100 #[v] w fun e w' => ∃ r, e = .returned r ∧ Own w.heap.size 44 7 brEnc w' r L ∧ Below w.heap.size w w' := by
  have qS := br_eql_nil
  obtain ⟨a, cap, rfl, hm⟩ := h.len
  cases a with
  | none =>
    have hn : L = [] := by
      rcases h with ⟨_, _, _, _, h0⟩ | ⟨g, off, cap', hv, _⟩
      · exact h0
      · simp at hv
    subst hn
    go_enter Try.func100, Try.ntmps100
    go_wp2
    go_ret
    exact ⟨_, rfl, Own.nil, Below.refl _ _⟩
  | some ad =>
    go_enter Try.func100, Try.ntmps100
    go_wp2_with (at_builtin; refine wpList_app rfl _ _ 22 44 rfl elem_br brEnc_len brEnc_one _ ([] : List Brn) rfl (Own.made0 w 44 (Nat.le_refl _)) _ L rfl (h.pure ((Below.refl _ _).alloc (Nat.le_refl _) _)) (by unfold maxLen; simp <;> omega) (by simp <;> omega) (by simp) ?_; intro v' w2 hown hgr hfr hshape)
    go_ret
    refine ⟨_, rfl, by simpa using hown, ?_⟩
    exact ((Below.refl w.heap.size w).alloc (Nat.le_refl _) _).grown hgr (by simp) (fun j e => by have e : some w.heap.size = some j := e; injection e with e; omega)
end Go.Proofs.Ytcelpincmpjhkaa

/- Chapter 19: how the laws' arguments are opened: rows of branches, tables. Conditions: none. -/
namespace Go.Proofs.Ytcelpincmpjhkaa
set_option linter.unusedSimpArgs false
set_option linter.unusedVariables false
open Go.ChangeShapes Go.WideShapes Go.ChangeAt Go.RowKit
set_option maxRecDepth 100000
section
variable {H : Type} {enc : TypeId × Value → H} {w : World} {base : Nat} {spare : Nat → Bool} {held : Bool}
/-- A row's fields lie in their types' bounds. -/
def WfB (b : Brn) : Prop := (0 ≤ b.tm ∧ b.tm ≤ 4294967295) ∧ (0 ≤ b.lf ∧ b.lf ≤ 4294967295) ∧ 0 ≤ b.st ∧ 0 ≤ b.why
theorem open_br (n : Nat) (cs : List Value) (y : DataW H × List MemPlace)
    (h : DataW.trod enc Try.prog w base spare held n 44 cs = some y) : ∃ x : Brn, cs = brEnc x ∧ WfB x := by
  obtain ⟨hl, m, hf⟩ := open_fields Try.underlying44 h
  have hc : Try.prog.cellsOf 44 = 7 := by kernel_rfl
  have c1 : Try.prog.cellsOf 42 = 1 := by kernel_rfl
  have c2 : Try.prog.cellsOf 35 = 1 := by kernel_rfl
  have c3 : Try.prog.cellsOf 26 = 1 := by kernel_rfl
  rw [hc] at hl
  match cs, hl with
  | [a0, a1, a2, a3, a4, a5, a6], _ =>
    obtain ⟨z, hz⟩ := hf 0 _ rfl
    have hz' : DataW.trod enc Try.prog w base spare held m 28 (([a0, a1, a2, a3, a4, a5, a6].drop 0).take (Try.prog.cellsOf 28)) = some z := hz
    rw [cells_xid] at hz'
    obtain ⟨x, hx⟩ := open_xid m _ _ hz'
    obtain ⟨b3, rfl, w3⟩ := field_int Try.underlying42 c1 (o := 3) (c := a3) rfl (hf 1 _ rfl)
    obtain ⟨b4, rfl, w4⟩ := field_int Try.underlying35 c2 (o := 4) (c := a4) rfl (hf 2 _ rfl)
    obtain ⟨b5, rfl, w5⟩ := field_int Try.underlying26 c3 (o := 5) (c := a5) rfl (hf 3 _ rfl)
    obtain ⟨b6, rfl, w6⟩ := field_int Try.underlying26 c3 (o := 6) (c := a6) rfl (hf 4 _ rfl)
    have hx' : [a0, a1, a2] = xidCells x := hx
    simp only [xidCells, List.cons.injEq, and_true] at hx'
    obtain ⟨rfl, rfl, rfl⟩ := hx'
    exact ⟨⟨x, b3, b4, b5, b6⟩, rfl, bounds_u32 w5, bounds_u32 w6, (bounds_u8 w3).1, (bounds_u8 w4).1⟩
theorem slice_cell {t e : TypeId} {n : Nat} {c : Value} {y : DataW H × List MemPlace} (ht : Try.prog.underlying t = some (.slice e)) (h : DataW.trod enc Try.prog w base spare held n t [c] = some y) : ∃ a l cap, c = .slice a l cap := by
  rcases Deep.open_slice ht h with ⟨hcs, _⟩ | ⟨a, len, cap, mm, n, D, Pl, hcs, _⟩
  · simp only [List.cons.injEq, and_true] at hcs; exact ⟨_, _, _, hcs⟩
  · simp only [List.cons.injEq, and_true] at hcs; exact ⟨_, _, _, hcs⟩
theorem open_tab {b : Nat} {v : Value} {d : DataW H} {ps : List MemPlace} (hv : Value.okWide Try.prog w .any b 25 v) (h : DataW.Trod enc Try.prog w base spare held 25 v d ps) :
    ∃ (rv av : Value) (R : List Brn) (A : List Asc), v = .agg #[rv, av] ∧ Slc brEnc 7 w rv R ∧ Slc ascEnc 5 w av A ∧ ∀ b ∈ R, WfB b := by
  obtain ⟨cs, rfl, hs⟩ := okWide_struct Try.underlying25 hv
  obtain ⟨n, hn⟩ := h
  have hc : Try.prog.cellsOf 25 = 2 := by kernel_rfl
  have cr : Try.prog.cellsOf 22 = 1 := by kernel_rfl
  have ca : Try.prog.cellsOf 23 = 1 := by kernel_rfl
  rw [hc] at hs
  obtain ⟨c0, c1, rfl⟩ : ∃ c0 c1, cs = #[c0, c1] := by
    have : cs.toList.length = 2 := by simpa using hs
    match h : cs.toList, this with
    | [c0, c1], _ => exact ⟨c0, c1, by rw [← Array.toList_inj]; exact h⟩
  have hn' : DataW.trod enc Try.prog w base spare held n 25 [c0, c1] = some (d, ps) := by simpa [Value.cells] using hn
  obtain ⟨hl, m, hf⟩ := open_fields Try.underlying25 hn'
  obtain ⟨z0, h0⟩ := hf 0 _ rfl
  obtain ⟨z1, h1⟩ := hf 1 _ rfl
  have h0' : DataW.trod enc Try.prog w base spare held m 22 (([c0, c1].drop 0).take (Try.prog.cellsOf 22)) = some z0 := h0
  have h1' : DataW.trod enc Try.prog w base spare held m 23 (([c0, c1].drop 1).take (Try.prog.cellsOf 23)) = some z1 := h1
  rw [cr] at h0'
  rw [ca] at h1'
  simp only [List.drop_zero, List.drop_succ_cons, List.take_succ_cons, List.take_zero] at h0' h1'
  obtain ⟨a, l, cap, rfl⟩ := slice_cell Try.underlying22 h0'
  obtain ⟨a', l', cap', rfl⟩ := slice_cell Try.underlying23 h1'
  obtain ⟨R, hR, hWf⟩ := open_slc (ρ := brEnc) (Wf := WfB) (d := z0.1) (ps := z0.2) Try.underlying22 (show Try.prog.cellsOf 44 = 7 by kernel_rfl) (by omega) (fun n cs y hy => open_br n cs y hy) ⟨_, _, _, rfl⟩ ⟨m, by simpa [Value.cells] using h0'⟩
  obtain ⟨A, hA, _⟩ := open_slc (ρ := ascEnc) (Wf := fun _ => True) (d := z1.1) (ps := z1.2) Try.underlying23 (show Try.prog.cellsOf 57 = 5 by kernel_rfl) (by omega) (fun n cs y hy => open_asc n cs y hy) ⟨_, _, _, rfl⟩ ⟨m, by simpa [Value.cells] using h1'⟩
  exact ⟨_, _, R, A, rfl, hR, hA, hWf⟩
end
end Go.Proofs.Ytcelpincmpjhkaa
