/- Entries: Get, the program's. Conditions: the text is short enough to be in memory; utf8's tables are laid. Written by gen_enI.py. -/
import Derived.Test.YtlonokcaddpniaaGreatDoorEG
import Derived.Test.YtlonokcaddpniaaGreatDoorEA
set_option linter.unusedSimpArgs false
set_option linter.unusedVariables false
namespace Go.Proofs.YtlonokcaddpniaaGreatDoor
open Go.RowKit
/-- The same, in memory of its own. -/
def GotF (w : World) (o : Option En) (e : Ending) (w' : World) : Prop := ∃ t : EnT, e = .returned (.tuple #[t.arg, .int .i64 (enE o)]) ∧ t.e = enV o ∧ EnOw w.heap.size w' t ∧ Below w.heap.size w w'
def set8 (w : World) (B : Nat) (v0 v1 v2 v3 v4 v5 v6 v7 : Value) : World := (((((((w.setCell ⟨B, 0, none⟩ v0).setCell ⟨B, 1, none⟩ v1).setCell ⟨B, 2, none⟩ v2).setCell ⟨B, 3, none⟩ v3).setCell ⟨B, 4, none⟩ v4).setCell ⟨B, 5, none⟩ v5).setCell ⟨B, 6, none⟩ v6).setCell ⟨B, 7, none⟩ v7
theorem Upd.at8 (w : World) (B : Nat) (v0 v1 v2 v3 v4 v5 v6 v7 : Value) : Upd (fun k => k = B) w (set8 w B v0 v1 v2 v3 v4 v5 v6 v7) := upd_set _ B _ _ (upd_set _ B _ _ (upd_set _ B _ _ (upd_set _ B _ _ (upd_set _ B _ _ (upd_set _ B _ _ (upd_set _ B _ _ (upd_set _ B _ _ (Upd.refl _ w) rfl) rfl) rfl) rfl) rfl) rfl) rfl) rfl
theorem Blk.fresh8 {w : World} {B : Nat} {c0 c1 c2 c3 c4 c5 c6 c7 : Value} (h : Blk w B [c0, c1, c2, c3, c4, c5, c6, c7]) (v0 v1 v2 v3 v4 v5 v6 v7 : Value) : Blk (set8 w B v0 v1 v2 v3 v4 v5 v6 v7) B [v0, v1, v2, v3, v4, v5, v6, v7] := (((((((h.set 0 v0).set 1 v1).set 2 v2).set 3 v3).set 4 v4).set 5 v5).set 6 v6).set 7 v7
theorem egO_ok {L : List UInt8} {q : En} {rE : RS} (h : egP L = (q, rE)) (h0 : rE.2 = false) (h1 : q.chk = 0) (h2 : q.bytes = L) : egO L = some q := by
  rw [egO_P, h]; exact if_pos ⟨h0, h1, h2⟩
theorem egO_no {L : List UInt8} {q : En} {rE : RS} (h : egP L = (q, rE)) (h0 : ¬ (rE.2 = false ∧ q.chk = 0 ∧ q.bytes = L)) : egO L = none := by
  rw [egO_P, h]; exact if_neg h0
/-- What stands while an entry is read: the reader, the text, the result's box, the entry's. -/
structure GP (w0 w : World) (tb pb rb vb : Nat) (s : ByteArray) (r : RS) (cs : List Value) : Prop where
  E : RdE w tb rb vb r
  S : Blk w w0.heap.size [.string s]
  Z : Blk w (w0.heap.size + 1) [.int .u8 0, .string ⟨#[]⟩, .int .u64 0, .int .u32 0, .string ⟨#[]⟩, .string ⟨#[]⟩, .slice none 0 0, .slice none 0 0]
  P : Blk w pb cs
  T : Below w0.heap.size w0 w
  o1 : w0.heap.size + 1 < vb
  o2 : tb < pb
section
variable {w0 w w' : World} {tb pb rb vb : Nat} {s : ByteArray} {r r' : RS} {cs : List Value}
theorem GP.callE (h : GP w0 w tb pb rb vb s r cs) (hE : RdE w' tb rb vb r') (hu : Upd (Only vb) w w') : GP w0 w' tb pb rb vb s r' cs :=
  ⟨hE, h.S.upd hu (fun e => by have h1 := h.o1; unfold Only at e; omega), h.Z.upd hu (fun e => by have h1 := h.o1; unfold Only at e; omega), h.P.upd hu (fun e => by have h1 := h.o2; have h2 := h.E.v; unfold Only at e; omega), below_only h.T hu (by have h1 := h.o1; omega) h.T.size, h.o1, h.o2⟩
theorem GP.call (h : GP w0 w tb pb rb vb s r cs) (hs : RdS w' vb r'.1 r'.2) (hu : Upd (Only vb) w w') (hl : r'.1.length ≤ r.1.length) : GP w0 w' tb pb rb vb s r' cs := h.callE (h.E.next hu hs hl) hu
theorem GP.pure (h : GP w0 w tb pb rb vb s r cs) (hB : Below w.heap.size w w') : GP w0 w' tb pb rb vb s r cs :=
  ⟨h.E.pure hB, h.S.pure hB, h.Z.pure hB, h.P.pure hB, h.T.trans (hB.mono h.T.size), h.o1, h.o2⟩
theorem GP.set (h : GP w0 w tb pb rb vb s r cs) (j : Nat) (v : Value) : GP w0 (w.setCell ⟨pb, j, none⟩ v) tb pb rb vb s r (cs.set j v) := by
  have hu := Upd.set (S := fun k => k = pb) (w := w) (p := ⟨pb, j, none⟩) rfl v; have h1 := h.o1; have h2 := h.o2; have h3 := h.E.v; exact ⟨h.E.other hu (fun k e => by omega), h.S.upd hu (fun e => by omega), h.Z.upd hu (fun e => by omega), h.P.set j v, h.T.trans (hu.below h.T.size (fun i e => by omega)), h1, h2⟩
end
theorem u32_wrap (x : Int) (h0 : 0 ≤ x) (h : x < 4294967296) : IntKind.u32.wrap x = x := by
  have e : IntKind.u32.wrap x = x % 4294967296 := rfl; rw [e]; omega
end Go.Proofs.YtlonokcaddpniaaGreatDoor
