/- The runs of a look-up, a store and a delete at a map known as a function, as equations: for regions that draw their order. Conditions: a store asks that there is room. -/
import Derived.Test.YtgpdbifgbabnnaaMapG
namespace Go.Proofs.Ytgpdbifgbabnnaa
open Go.RowKit Go.ChangeMaps Go.MapKept
section
variable {κ ε : Type} {P : Program} {t k e : TypeId} {kv : κ → Value} {kl : κ → Lit} {ok : κ → Prop} {ev : ε → Value} {dec : Value → Option ε} {z : ε} {w : World} {b cnt : Nat} {h : κ → Option ε}
theorem MapG.drew (M : MapG P k kl ok dec w b h cnt) : MapG P k kl ok dec w.drew b h cnt := M
theorem MapG.look_ok_run (T : MapT P t k e kv kl ok ev dec z) (M : MapG P k kl ok dec w b h cnt) {u : κ} (hu : ok u) : (Instr.lookup t (.map (some b)) (kv u) true).run P w = .ok (.tuple #[ev ((h u).getD z), .bool (h u).isSome]) w := by
  obtain ⟨D, h1, h2, h3⟩ := M
  obtain ⟨v, ps, hrun, hv⟩ := h1.look_ok T.K T.ht (T.hz w) (zd := .held z) (zp := []) (by simp [decR, T.de]) (T.hkey u hu)
  rw [hrun, MapG.elem T (h3 u hu) hv, (h3 u hu).1]
theorem MapG.look_run (T : MapT P t k e kv kl ok ev dec z) (M : MapG P k kl ok dec w b h cnt) {u : κ} (hu : ok u) : (Instr.lookup t (.map (some b)) (kv u) false).run P w = .ok (ev ((h u).getD z)) w := by
  obtain ⟨D, h1, h2, h3⟩ := M
  obtain ⟨v, ps, hrun, hv⟩ := h1.lookup T.K T.ht (T.hz w) (zd := .held z) (zp := []) (by simp [decR, T.de]) (T.hkey u hu)
  rw [hrun, MapG.elem T (h3 u hu) hv]
variable [DecidableEq κ]
theorem MapG.put_run (T : MapT P t k e kv kl ok ev dec z) (M : MapG P k kl ok dec w b h cnt) (hn : cnt < maxLen) {u : κ} (hu : ok u) (y : ε) :
    ∃ w', (Instr.mapUpdate t (.map (some b)) (kv u) (ev y)).run P w = .ok () w' ∧ MapG P k kl ok dec w' b (fun i => if i = u then some y else h i) (if (h u).isSome then cnt else cnt + 1) ∧ w.grownBy w' (some b) := by
  obtain ⟨D, h1, h2, h3⟩ := M
  obtain ⟨w', hrun, g1, g2⟩ := h1.update T.K T.ht hn (val := ev y) (T.hkey u hu) (d := .held y) (ps := []) (by simp [decR, T.de])
  have hsz := Maps.size_put (k := kl u) (h1.tidy T.K) (.held y)
  refine ⟨w', hrun, ⟨_, ?_, ?_, MapG.put_law T h1 h3 hu y⟩, g2⟩
  · have g3 := tight g1
    rw [hsz, (h3 u hu).1, h2] at g3
    exact g3
  · rw [hsz, (h3 u hu).1, h2]
theorem MapG.del_run (T : MapT P t k e kv kl ok ev dec z) (M : MapG P k kl ok dec w b h cnt) {u : κ} (hu : ok u) (ty : TypeId) :
    ∃ w', (Builtin.delete_ #[t, k] ty #[.map (some b), kv u]).run P w = .ok (.tuple #[]) w' ∧ MapG P k kl ok dec w' b (fun i => if i = u then none else h i) (if (h u).isSome then cnt - 1 else cnt) ∧ w.grownBy w' (some b) := by
  obtain ⟨D, h1, h2, h3⟩ := M
  obtain ⟨w', hrun, g1, g2⟩ := h1.drop T.K T.ht (T.hkey u hu) ty
  have hsz := Maps.size_del (k := kl u) (h1.tidy T.K)
  rw [(h3 u hu).1, h2] at hsz
  have e : Maps.size (D.del (kl u)) = if (h u).isSome then cnt - 1 else cnt := by
    cases hh : (h u).isSome <;> rw [hh] at hsz <;> simp at hsz ⊢ <;> omega
  refine ⟨w', hrun, ⟨_, ?_, e, MapG.del_law T h3 hu⟩, g2.grown⟩
  have g3 := tight g1
  rw [e] at g3
  exact g3
end
end Go.Proofs.Ytgpdbifgbabnnaa
