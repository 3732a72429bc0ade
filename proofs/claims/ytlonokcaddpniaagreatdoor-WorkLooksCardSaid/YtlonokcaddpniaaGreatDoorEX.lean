/- Chapter 17: how the laws' arguments are opened: works, puts, names of messages, names of branches, numbers. Conditions: none. (Texts joined.) -/
import Derived.Test.YtlonokcaddpniaaGreatDoorPK
import Derived.Test.YtlonokcaddpniaaGreatDoorEA
import Derived.Test.YtlonokcaddpniaaGreatDoorWA
set_option linter.unusedSimpArgs false
set_option linter.unusedVariables false
namespace Go.Proofs.YtlonokcaddpniaaGreatDoor
open Go.ChangeShapes Go.WideShapes Go.ChangeAt Go.RowKit
set_option maxRecDepth 100000
/-- What is read lies in memory. -/
theorem EnRd.low {P : Nat → Prop} {w : World} {t : EnT} (h : EnRd P w t) : EnRd (fun i => i < w.heap.size) w t :=
  ⟨h.p, fun k e n => (slc_lt ptEnc_len (by omega) h.p n k e), fun x hx => (h.r x hx).lt.weaken (fun i _ hi => hi.2), h.s, fun k e n => (slc_lt rfEnc_len (by omega) h.s n k e), h.wf⟩
section
variable {H : Type} {enc : TypeId × Value → H} {w : World} {base : Nat} {spare : Nat → Bool} {held : Bool}
theorem bounds_u64 {m : Int} (h : (Lit.int .u64 m).wf = true) : 0 ≤ m ∧ m < 18446744073709551616 := by
  simp [Lit.wf, IntKind.min, IntKind.max, IntKind.signed, IntKind.bits] at h; omega
/-- A put that came in. -/
theorem open_put (fuel : Nat) (cs : List Value) (y : DataW H × List MemPlace) (h : DataW.trod enc Tryz.prog w base spare held fuel 35 cs = some y) : ∃ t : PtT, cs = ptEnc t ∧ (0 ≤ t.id ∧ t.id < 18446744073709551616) ∧ Rd (fun _ => True) w t.pr.app := by
  obtain ⟨hl, n, rfl, g⟩ := struct_fields Tryz.underlying35 h; have hc : Tryz.prog.cellsOf 35 = 12 := by kernel_rfl
  have c0 : Tryz.prog.cellsOf 33 = 9 := by kernel_rfl
  have c1 : Tryz.prog.cellsOf 26 = 1 := by kernel_rfl
  have c2 : Tryz.prog.cellsOf 9 = 1 := by kernel_rfl
  rw [hc] at hl
  match cs, hl with
  | [a0, a1, a2, a3, a4, a5, a6, a7, a8, a9, a10, a11], _ =>
    obtain ⟨q, rfl, _⟩ := field_string Tryz.underlying9 c2 (o := 0) (c := a0) rfl (g 0 _ rfl); obtain ⟨id, rfl, wi⟩ := field_int Tryz.underlying26 c1 (o := 1) (c := a1) rfl (g 1 _ rfl); obtain ⟨body, rfl, _⟩ := field_string Tryz.underlying9 c2 (o := 11) (c := a11) rfl (g 3 _ rfl); obtain ⟨z2, h2⟩ := g 2 _ rfl; have h2' : DataW.trod enc Tryz.prog w base spare held n 33 (([.string q, .int .u64 id, a2, a3, a4, a5, a6, a7, a8, a9, a10, .string body].drop 2).take (Tryz.prog.cellsOf 33)) = some z2 := h2; rw [c0] at h2'; simp only [List.drop_succ_cons, List.drop_zero, List.take_succ_cons, List.take_zero] at h2'; obtain ⟨t, ht, hR⟩ := open_prop n _ _ h2'; refine ⟨⟨q, id, t, body⟩, ?_, bounds_u64 wi, hR⟩; unfold pEnc at ht; injection ht with e2 ht; injection ht with e3 ht; injection ht with e4 ht; injection ht with e5 ht; injection ht with e6 ht; injection ht with e7 ht; injection ht with e8 ht; injection ht with e9 ht; injection ht with e10 ht; subst e2; subst e3; subst e4; subst e5; subst e6; subst e7; subst e8; subst e9; subst e10; rfl
/-- A message's name that came in. -/
theorem open_ref (fuel : Nat) (cs : List Value) (y : DataW H × List MemPlace) (h : DataW.trod enc Tryz.prog w base spare held fuel 37 cs = some y) : ∃ r : Rf, cs = rfEnc r ∧ (0 ≤ r.id ∧ r.id < 18446744073709551616) := by
  obtain ⟨hl, n, rfl, g⟩ := struct_fields Tryz.underlying37 h; have hc : Tryz.prog.cellsOf 37 = 2 := by kernel_rfl
  have c1 : Tryz.prog.cellsOf 26 = 1 := by kernel_rfl
  have c2 : Tryz.prog.cellsOf 9 = 1 := by kernel_rfl
  rw [hc] at hl
  match cs, hl with
  | [a0, a1], _ =>
    obtain ⟨q, rfl, _⟩ := field_string Tryz.underlying9 c2 (o := 0) (c := a0) rfl (g 0 _ rfl); obtain ⟨id, rfl, wi⟩ := field_int Tryz.underlying26 c1 (o := 1) (c := a1) rfl (g 1 _ rfl); exact ⟨⟨q, id⟩, rfl, bounds_u64 wi⟩
end
end Go.Proofs.YtlonokcaddpniaaGreatDoor
namespace Go.Proofs.YtlonokcaddpniaaGreatDoor
open Go.ChangeShapes Go.WideShapes Go.ChangeAt Go.RowKit
set_option maxRecDepth 100000
section
variable {H : Type} {enc : TypeId × Value → H} {w : World} {base : Nat} {spare : Nat → Bool} {held : Bool}
/-- A work that came in, cell by cell. -/
theorem open_wkc (fuel : Nat) (cs : List Value) (y : DataW H × List MemPlace) (h : DataW.trod enc Tryz.prog w base spare held fuel 25 cs = some y) : ∃ t : WkT, t.arg = .agg cs.toArray ∧ WkRd (fun _ => True) w t := by
  obtain ⟨hl, n, rfl, g⟩ := struct_fields Tryz.underlying25 h; have hc : Tryz.prog.cellsOf 25 = 2 := by kernel_rfl
  have c4 : Tryz.prog.cellsOf 22 = 1 := by kernel_rfl
  have c5 : Tryz.prog.cellsOf 23 = 1 := by kernel_rfl
  have cp : Tryz.prog.cellsOf 35 = 12 := by kernel_rfl
  have cr : Tryz.prog.cellsOf 37 = 2 := by kernel_rfl
  rw [hc] at hl
  match cs, hl with
  | [a6, a7], _ =>
    obtain ⟨z4, h4⟩ := g 0 _ rfl; have h4' : DataW.trod enc Tryz.prog w base spare held n 22 (([a6, a7].drop 0).take (Tryz.prog.cellsOf 22)) = some z4 := h4; rw [c4] at h4'; simp only [List.drop_succ_cons, List.drop_zero, List.take_succ_cons, List.take_zero] at h4'; obtain ⟨z5, h5⟩ := g 1 _ rfl; have h5' : DataW.trod enc Tryz.prog w base spare held n 23 (([a6, a7].drop 1).take (Tryz.prog.cellsOf 23)) = some z5 := h5; rw [c5] at h5'; simp only [List.drop_succ_cons, List.drop_zero, List.take_succ_cons, List.take_zero] at h5'; obtain ⟨P, hP, wP⟩ := open_slcF (ρ := ptEnc) (Wf := fun t => (0 ≤ t.id ∧ t.id < 18446744073709551616) ∧ Rd (fun _ => True) w t.pr.app) (m := 12) Tryz.underlying22 cp (by omega) (fun n cs y _ hy => open_put n cs y hy) (slice_shape Tryz.underlying22 h4') h4'; obtain ⟨T, hT, wT⟩ := open_slcF (ρ := rfEnc) (Wf := fun r => 0 ≤ r.id ∧ r.id < 18446744073709551616) (m := 2) Tryz.underlying23 cr (by omega) (fun n cs y _ hy => open_ref n cs y hy) (slice_shape Tryz.underlying23 h5') h5'; refine ⟨.mk a6 a7 P T, rfl, hP, fun _ _ _ => trivial, fun x hx => (wP x hx).2, hT, fun _ _ _ => trivial, ⟨(by show (0 : Int) ≤ 4; omega), (by show (4 : Int) < 256; omega), (by show (0 : Int) ≤ 0; omega), (by show (0 : Int) < 18446744073709551616; omega), (by show (0 : Int) ≤ 0; omega), (by show (0 : Int) < 4294967296; omega), fun p hp => by obtain ⟨x, hx, rfl⟩ := List.mem_map.1 hp; exact ⟨(wP x hx).1.1, (wP x hx).1.2, (wP x hx).2.wf⟩, fun r hr => wT r hr⟩⟩
/-- A work that came in. -/
theorem open_work {b : Nat} {v : Value} {d : DataW H} {ps : List MemPlace} (hv : Value.okWide Tryz.prog w .any b 25 v) (h : DataW.Trod enc Tryz.prog w base spare held 25 v d ps) : ∃ t : WkT, v = t.arg ∧ WkRd (fun i => i < w.heap.size) w t := by
  obtain ⟨cs, rfl, hs⟩ := okWide_struct Tryz.underlying25 hv; obtain ⟨n, hn⟩ := h; obtain ⟨t, e, hR⟩ := open_wkc n cs.toList _ (by simpa [Value.cells] using hn); exact ⟨t, by rw [e], hR.low⟩
end
end Go.Proofs.YtlonokcaddpniaaGreatDoor
