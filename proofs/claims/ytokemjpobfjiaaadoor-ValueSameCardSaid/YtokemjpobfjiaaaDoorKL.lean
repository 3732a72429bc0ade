/- Chapter 05: how the laws' arguments are opened: bytes, values. Conditions: none. Written by gen_vargs.py. (Texts joined; the heads of the others stand below.) -/
import Derived.Test.YtokemjpobfjiaaaDoorKJ
import Derived.Test.YtokemjpobfjiaaaDoorKQ
import Derived.Test.YtokemjpobfjiaaaDoorKX
import Derived.Test.YtokemjpobfjiaaaDoorKA
import Derived.Test.YtokemjpobfjiaaaDoorRows
import Derived.Lib.LaidU8
import Derived.PinnedBridge
import Derived.Lay
import Derived.OpenShut
import Derived.Deep.DeepHandedRow

/- Chapter 05's laws: contracts as they are used there. Conditions: none. -/
namespace Go.Proofs.YtokemjpobfjiaaaDoor
set_option linter.unusedSimpArgs false
set_option linter.unusedVariables false
open Go.RowKit
theorem dsame_yes {t u : VT} {P P2 : Nat → Prop} {w : World} (h : Rd P w t) (k : Rd P2 w u) (e : t.v = u.v) : Calls Tryd.prog 15 #[t.arg, u.arg] w fun r w' => r = .returned (.bool true) ∧ Below w.heap.size w w' :=
  (dsame_any t u P P2 w h k).mono fun r w' ⟨⟨b, hr, hb⟩, hB⟩ => ⟨by rw [hr, hb.2 e], hB⟩
theorem psame_yes {t u : VT} {P P2 : Nat → Prop} {w : World} (h : Rd P w t) (k : Rd P2 w u) (e : t.v = u.v) : Calls Tryd.prog 18 #[t.arg, u.arg] w fun r w' => r = .returned (.bool true) ∧ Below w.heap.size w w' :=
  (psame_any t u P P2 w h k).mono fun r w' ⟨⟨b, hr, hb⟩, hB⟩ => ⟨by rw [hr, hb.2 e], hB⟩
theorem psame_no {t u : VT} {P P2 : Nat → Prop} {w : World} (h : Rd P w t) (k : Rd P2 w u) (e : t.v ≠ u.v) : Calls Tryd.prog 18 #[t.arg, u.arg] w fun r w' => r = .returned (.bool false) ∧ Below w.heap.size w w' :=
  (psame_any t u P P2 w h k).mono fun r w' ⟨⟨b, hr, hb⟩, hB⟩ => ⟨by rw [hr]; cases b with | false => rfl | true => exact absurd (hb.1 rfl) e, hB⟩
theorem VT.zero_rd {P : Nat → Prop} {w : World} : Rd P w VT.zero := Rd.leaf (by omega) (by omega) (by omega) (by omega)
theorem VT.zero_v : VT.zero.v = .mk 0 0 ⟨#[]⟩ [] [] := by simp [VT.zero, VT.v, VT.vL]
/-- What Get tells, in one form: the value of nothing where there is none. -/
def getV (o : Option (V × Nat)) : V := match o with | some (x, _) => x | none => .mk 0 0 ⟨#[]⟩ [] []
def getN (o : Option (V × Nat)) : Nat := match o with | some (_, n) => n | none => 0
def getE (o : Option (V × Nat)) : Int := match o with | some _ => 0 | none => 5
theorem getPost_one {w : World} {o : Option (V × Nat)} {e : Ending} {w' : World} (h : GetPost w o e w') : ∃ (tk tn : Int) (ts : ByteArray) (ka : Option Addr) (kc : Nat) (la : Option Addr) (lc : Nat) (tks : List ByteArray) (tl : List VT),
    e = .returned (.tuple #[.agg #[.int .u8 tk, .int .u64 tn, .string ts, .slice ka tks.length kc, .slice la tl.length lc], .int .i64 (getN o), .int .i64 (getE o)]) ∧ (VT.mk tk tn ts (.slice ka tks.length kc) (.slice la tl.length lc) tks tl).v = getV o ∧
    Rd (fun i => w.heap.size ≤ i) w' (VT.mk tk tn ts (.slice ka tks.length kc) (.slice la tl.length lc) tks tl) ∧ Below w.heap.size w w' := by
  match o, h with
  | none, ⟨he, hB⟩ => exact ⟨0, 0, ⟨#[]⟩, none, 0, none, 0, [], [], he, VT.zero_v, VT.zero_rd, hB⟩
  | some (x, n), ⟨t, he, hv, hR, hB⟩ =>
    obtain ⟨tk, tn, ts, ka, kc, la, lc, tks, tl, rfl, -⟩ := hR.open
    exact ⟨tk, tn, ts, ka, kc, la, lc, tks, tl, he, hv, hR, hB⟩
theorem pget_one (w : World) (v : Value) (L : List UInt8) (h : Slc byEnc 1 w v L) (hL : Big L.length) (hT : Tb w) : Calls Tryd.prog 16 #[v] w fun e w' => ∃ (tk tn : Int) (ts : ByteArray) (ka : Option Addr) (kc : Nat) (la : Option Addr) (lc : Nat) (tks : List ByteArray) (tl : List VT),
    e = .returned (.tuple #[.agg #[.int .u8 tk, .int .u64 tn, .string ts, .slice ka tks.length kc, .slice la tl.length lc], .int .i64 (getN (getP L)), .int .i64 (getE (getP L))]) ∧ (VT.mk tk tn ts (.slice ka tks.length kc) (.slice la tl.length lc) tks tl).v = getV (getP L) ∧
    Rd (fun i => w.heap.size ≤ i) w' (VT.mk tk tn ts (.slice ka tks.length kc) (.slice la tl.length lc) tks tl) ∧ Below w.heap.size w w' := (pget_any w v L h hL hT).mono fun e w' h => getPost_one h
theorem dget_one (w : World) (v : Value) (L : List UInt8) (h : Slc byEnc 1 w v L) (hL : Big L.length) : Calls Tryd.prog 17 #[v] w fun e w' => ∃ (tk tn : Int) (ts : ByteArray) (ka : Option Addr) (kc : Nat) (la : Option Addr) (lc : Nat) (tks : List ByteArray) (tl : List VT),
    e = .returned (.tuple #[.agg #[.int .u8 tk, .int .u64 tn, .string ts, .slice ka tks.length kc, .slice la tl.length lc], .int .i64 (getN (getP L)), .int .i64 (getE (getP L))]) ∧ (VT.mk tk tn ts (.slice ka tks.length kc) (.slice la tl.length lc) tks tl).v = getV (getP L) ∧
    Rd (fun i => w.heap.size ≤ i) w' (VT.mk tk tn ts (.slice ka tks.length kc) (.slice la tl.length lc) tks tl) ∧ Below w.heap.size w w' := (dget_any w v L h hL).mono fun e w' h => by rw [getD_eq] at h; exact getPost_one h
end Go.Proofs.YtokemjpobfjiaaaDoor

/- Chapter 05: how the laws' arguments are opened: bytes, values. Conditions: none. Written by gen_vargs.py. -/
namespace Go.Proofs.YtokemjpobfjiaaaDoor
set_option linter.unusedSimpArgs false
set_option linter.unusedVariables false
open Go.ChangeShapes Go.WideShapes Go.ChangeAt Go.RowKit
set_option maxRecDepth 100000
section
variable {H : Type} {enc : TypeId × Value → H} {P : Program} {w : World} {base : Nat} {spare : Nat → Bool} {held : Bool}
theorem open_slcF {α : Type} {ρ : α → List Value} {Wf : α → Prop} {m : Nat} {t e : TypeId} {v : Value} (ht : P.underlying t = some (.slice e)) (hc : P.cellsOf e = m) (hm : 0 < m)
    {fuel : Nat} {z : DataW H × List MemPlace} (hel : ∀ n cs y, n < fuel → DataW.trod enc P w base spare held n e cs = some y → ∃ x, cs = ρ x ∧ Wf x)
    (hsl : ∃ a len cap, v = .slice a len cap) (hf : DataW.trod enc P w base spare held fuel t [v] = some z) :
    ∃ L : List α, Slc ρ m w v L ∧ ∀ x ∈ L, Wf x := by
  rcases DataW.trod_slice ht hf with ⟨hcs, hx⟩ | ⟨a, len, cap, elems, rest, n, hfu, hcs, hx, hb, hl, hmx, hlen, hi, -⟩
  · refine ⟨[], .inl ⟨none, 0, ?_, by simp, rfl⟩, by simp⟩
    obtain ⟨a, l, c, rfl⟩ := hsl; simpa [Value.cells] using hcs
  · have hv : v = .slice (some a) len cap := by obtain ⟨a, l, c, rfl⟩ := hsl; simpa [Value.cells] using hcs
    subst hv
    have key : ∀ i, i < len → ∃ x, Wf x ∧ w.cells? base (a.add (i * m)) m = some (ρ x) := by
      intro i hil
      obtain ⟨cs', h1, h2⟩ : ∃ cs', w.cells? base (a.add (i * P.cellsOf e)) (P.cellsOf e) = some cs' ∧ DataW.trod enc P w base spare held n e cs' = some elems[i] := by
        have := hi i hil
        rw [List.getElem?_eq_getElem (by omega)] at this
        exact Option.bind_eq_some_iff.1 this
      obtain ⟨x, rfl, hw⟩ := hel n _ _ (by omega) h2
      rw [hc] at h1
      exact ⟨x, hw, h1⟩
    by_cases h0 : len = 0
    · subst h0; exact ⟨[], .inl ⟨some a, cap, rfl, hmx, rfl⟩, by simp⟩
    have hspot : a.spot = none := by
      obtain ⟨x, _, h1⟩ := key 0 (by omega)
      obtain ⟨_, hlen, hcell⟩ := World.cells?_some h1
      have h2 := hcell 0 (by omega)
      simp only [Nat.zero_mul] at h2
      have e1 : (a.add 0).add 0 = a := by simp [Addr.add]
      rw [e1] at h2
      have h3 : 0 < (ρ x).length := by omega
      rw [List.getElem?_eq_getElem h3] at h2
      exact World.cell?_spot h2
    haveI : Inhabited α := ⟨(key 0 (by omega)).choose⟩
    obtain ⟨f, hf'⟩ := Deep.choose_lt key
    refine ⟨(List.range len).map f, .inr ⟨a.block, a.off, cap, ?_, by simpa using hl, hmx, ?_⟩, ?_⟩
    · have : a = ⟨a.block, a.off, none⟩ := by obtain ⟨b, o, s⟩ := a; simp_all
      simp [← this]
    · intro i hil j u hu
      simp only [List.length_map, List.length_range] at hil
      simp only [List.getElem_map, List.getElem_range] at hu
      obtain ⟨_, h1⟩ := hf' i hil
      obtain ⟨_, hlen, hcell⟩ := World.cells?_some h1
      have hj : j < m := by rw [← hlen]; exact (List.getElem?_eq_some_iff.1 hu).1
      have h2 := hcell j hj
      rw [hu, Deep.add_add, add_eq a hspot, ← Nat.add_assoc] at h2
      exact h2
    · intro x hx
      rw [List.mem_map] at hx
      obtain ⟨i, hi', rfl⟩ := hx
      exact (hf' i (List.mem_range.1 hi')).1

end
section
variable {H : Type} {enc : TypeId × Value → H} {w : World} {base : Nat} {spare : Nat → Bool} {held : Bool}
theorem slice_shape {t e : TypeId} {n : Nat} {c : Value} {y : DataW H × List MemPlace} (ht : Tryd.prog.underlying t = some (.slice e)) (h : DataW.trod enc Tryd.prog w base spare held n t [c] = some y) : ∃ a l cap, c = .slice a l cap := by
  rcases DataW.trod_slice ht h with ⟨hcs, _⟩ | ⟨a, len, cap, _, _, _, _, hcs, _⟩
  · simp only [List.cons.injEq, and_true] at hcs; exact ⟨_, _, _, hcs⟩
  · simp only [List.cons.injEq, and_true] at hcs; exact ⟨_, _, _, hcs⟩
theorem struct_fields {t : TypeId} {fs : Array Field} {n : Nat} {cs : List Value} {y : DataW H × List MemPlace} (ht : Tryd.prog.underlying t = some (.struct fs)) (h : DataW.trod enc Tryd.prog w base spare held n t cs = some y) :
    cs.length = Tryd.prog.cellsOf t ∧ ∃ m, n = m + 1 ∧ ∀ (i : Nat) (f : Field), fs[i]? = some f → ∃ z, DataW.trod enc Tryd.prog w base spare held m f.type ((cs.drop f.offset).take (Tryd.prog.cellsOf f.type)) = some z := by
  obtain ⟨xs, n', rfl, -, hl, hlen, hf⟩ := DataW.trod_struct ht h
  refine ⟨hl, n', rfl, fun i f hi => ?_⟩
  have hlt : i < xs.length := by rw [hlen]; exact (Array.getElem?_eq_some_iff.1 hi).1
  have h1 := hf i f hi
  rw [List.getElem?_eq_getElem hlt] at h1
  exact ⟨_, h1⟩
/-- A value that came in. -/
theorem open_val : ∀ (fuel : Nat) (cs : List Value) (y : DataW H × List MemPlace), DataW.trod enc Tryd.prog w base spare held fuel 27 cs = some y → ∃ t : VT, cs = vEnc t ∧ Rd (fun _ => True) w t := by
  intro fuel
  induction fuel using Nat.strongRecOn with
  | ind fuel ih =>
    intro cs y h
    obtain ⟨hl, n, rfl, g⟩ := struct_fields Tryd.underlying27 h
    have hc : Tryd.prog.cellsOf 27 = 5 := by kernel_rfl
    have c0 : Tryd.prog.cellsOf 22 = 1 := by kernel_rfl
    have c1 : Tryd.prog.cellsOf 23 = 1 := by kernel_rfl
    have c2 : Tryd.prog.cellsOf 9 = 1 := by kernel_rfl
    have c3 : Tryd.prog.cellsOf 24 = 1 := by kernel_rfl
    have c4 : Tryd.prog.cellsOf 25 = 1 := by kernel_rfl
    rw [hc] at hl
    match cs, hl with
    | [a0, a1, a2, a3, a4], _ =>
      obtain ⟨k, rfl, wk⟩ := field_int Tryd.underlying22 c0 (o := 0) (c := a0) rfl (g 0 _ rfl)
      obtain ⟨m, rfl, wm⟩ := field_int Tryd.underlying23 c1 (o := 1) (c := a1) rfl (g 1 _ rfl)
      obtain ⟨s, rfl, ws⟩ := field_string Tryd.underlying9 c2 (o := 2) (c := a2) rfl (g 2 _ rfl)
      obtain ⟨z3, h3⟩ := g 3 _ rfl
      obtain ⟨z4, h4⟩ := g 4 _ rfl
      have h3' : DataW.trod enc Tryd.prog w base spare held n 24 (([.int .u8 k, .int .u64 m, .string s, a3, a4].drop 3).take (Tryd.prog.cellsOf 24)) = some z3 := h3
      have h4' : DataW.trod enc Tryd.prog w base spare held n 25 (([.int .u8 k, .int .u64 m, .string s, a3, a4].drop 4).take (Tryd.prog.cellsOf 25)) = some z4 := h4
      rw [c3] at h3'; rw [c4] at h4'
      simp only [List.drop_succ_cons, List.drop_zero, List.take_succ_cons, List.take_zero] at h3' h4'
      obtain ⟨ks, hK, -⟩ := open_slcF (ρ := strEnc) (Wf := fun _ => True) (m := 1) Tryd.underlying24 c2 (by omega) (fun n cs y _ hy => by
        obtain ⟨x, rfl, _, _⟩ := DataW.trod_string Tryd.underlying9 hy
        exact ⟨x, rfl, trivial⟩) (slice_shape Tryd.underlying24 h3') h3'
      obtain ⟨L, hL, hW⟩ := open_slcF (ρ := vEnc) (Wf := fun t => Rd (fun _ => True) w t) (m := 5) Tryd.underlying25 hc (by omega) (fun n' cs y hn hy => ih n' (by omega) cs y hy) (slice_shape Tryd.underlying25 h4') h4'
      have bk := bounds_u8 wk
      have bm : 0 ≤ m ∧ m < 18446744073709551616 := by
        simp [Lit.wf, IntKind.min, IntKind.max, IntKind.signed, IntKind.bits] at wm
        omega
      exact ⟨.mk k m s a3 a4 ks L, rfl, .mk hK (fun _ _ _ => trivial) hL (fun _ _ _ => trivial) hW bm.1 bm.2 bk.1 (by have := bk.2; show k < 256; omega)⟩
theorem open_value {b : Nat} {v : Value} {d : DataW H} {ps : List MemPlace} (hv : Value.okWide Tryd.prog w .any b 27 v) (h : DataW.Trod enc Tryd.prog w base spare held 27 v d ps) : ∃ t : VT, v = t.arg ∧ Rd (fun i => i < w.heap.size) w t := by
  obtain ⟨cs, rfl, hs⟩ := okWide_struct Tryd.underlying27 hv
  obtain ⟨n, hn⟩ := h
  obtain ⟨t, e, hR⟩ := open_val n cs.toList _ (by simpa [Value.cells] using hn)
  refine ⟨t, ?_, hR.lt.weaken (fun i _ hi => hi.2)⟩
  unfold VT.arg
  congr 1
  rw [← Array.toList_inj, e]; rfl
/-- Bytes that came in. -/
theorem open_bytes {b : Nat} {v : Value} {d : DataW H} {ps : List MemPlace} (hv : Value.okWide Tryd.prog w .any b 31 v) (h : DataW.Trod enc Tryd.prog w base spare held 31 v d ps) : ∃ L : List UInt8, Slc byEnc 1 w v L := by
  obtain ⟨n, hn⟩ := h
  have c5 : Tryd.prog.cellsOf 5 = 1 := by kernel_rfl
  obtain ⟨a, l, c, rfl⟩ := okWide_slice Tryd.underlying31 hv
  have hn' : DataW.trod enc Tryd.prog w base spare held n 31 [.slice a l c] = some (d, ps) := by simpa [Value.cells] using hn
  obtain ⟨L, hL, -⟩ := open_slcF (ρ := byEnc) (Wf := fun _ => True) (m := 1) Tryd.underlying31 c5 (by omega) (fun n cs y _ hy => by
    obtain ⟨x, rfl, _, hw⟩ := DataW.trod_int Tryd.underlying5 hy
    have bx := bounds_u8 hw
    refine ⟨UInt8.ofNat x.toNat, ?_, trivial⟩
    unfold byEnc
    have : ((UInt8.ofNat x.toNat).toNat : Int) = x := by rw [UInt8.toNat_ofNat']; omega
    rw [this]) ⟨_, _, _, rfl⟩ hn'
  exact ⟨L, hL⟩
end
/-- The variables that are laid. -/
def LAID : List (String × DataW Unit) := [("unicode/utf8.acceptRanges", Rows.laid_unicode_utf8_acceptRanges), ("unicode/utf8.first", Rows.laid_unicode_utf8_first)]
theorem accept_eq : Rows.laid_unicode_utf8_acceptRanges = Lib.acceptData := by kernel_rfl
theorem tb_of_laid {w : World} (hL : laidMet Tryd.prog LAID w) : Tb w :=
  utf8Tabs_of_reads { u8lays with } ⟨by kernel_rfl, by kernel_rfl, by kernel_rfl, by kernel_rfl, by kernel_rfl, by kernel_rfl, by kernel_rfl⟩ (Pinned.utf8First_eq ▸ Lib.laidMet.reads hL (.tail _ (.head _))) (accept_eq ▸ Lib.laidMet.reads hL (.head _))
end Go.Proofs.YtokemjpobfjiaaaDoor
