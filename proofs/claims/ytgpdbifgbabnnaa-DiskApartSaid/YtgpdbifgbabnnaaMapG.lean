/- Maps that a call owns or was handed, known as functions from keys to elements ('MapG'), and the laws at their operations. Conditions: a store asks that there is room. -/
import Derived.Test.YtgpdbifgbabnnaaOwn
import Derived.Maps.OwnSet
namespace Go.Proofs.Ytgpdbifgbabnnaa
open Go.RowKit Go.ChangeMaps Go.MapKept
open Go.Maps (Keyed)

/-- The type t of a map, its keys' type k and its elements' type e: how keys and elements are spelled. -/
structure MapT (P : Program) (t k e : TypeId) {κ ε : Type} (kv : κ → Value) (kl : κ → Lit) (ok : κ → Prop) (ev : ε → Value) (dec : Value → Option ε) (z : ε) : Prop where
  ht : P.underlying t = some (.map k e)
  K : Keyed P k
  hkey : ∀ x, ok x → keyOf P k (kv x) = some (kl x)
  inj : ∀ x y, ok x → ok y → kl x = kl y → x = y
  de : ∀ y, dec (ev y) = some y
  ed : ∀ v y, dec v = some y → v = ev y
  hz : ∀ w, (zeroValue e).run P w = .ok (ev z) w

/-- How an element reads. -/
def decR {ε : Type} (dec : Value → Option ε) (v : Value) : Option (DataW ε × List MemPlace) := (dec v).map (fun y => (.held y, []))

/-- Block b is a map of cnt entries that holds at the key x what h says. -/
def MapG {κ ε : Type} (P : Program) (k : TypeId) (kl : κ → Lit) (ok : κ → Prop) (dec : Value → Option ε) (w : World) (b : Nat) (h : κ → Option ε) (cnt : Nat) : Prop :=
  ∃ D : DataW ε, w.ownsMap P k (decR dec) b cnt D ∧ Maps.size D = cnt ∧ ∀ x, ok x → Maps.has D (kl x) = (h x).isSome ∧ ∀ y, h x = some y → ∀ z, D.atKey (kl x) z = .held y

theorem tight {H : Type} {P : Program} {k : TypeId} {R : Value → Option (DataW H × List MemPlace)} {w : World} {b n : Nat} {D : DataW H} (h : w.ownsMap P k R b n D) : w.ownsMap P k R b (Maps.size D) D := by
  obtain ⟨es, clock, hb, F, hs, rfl⟩ := h
  exact ⟨es, clock, hb, F, by simp [Maps.size, length_sorted], rfl⟩

section
variable {κ ε : Type} {P : Program} {t k e : TypeId} {kv : κ → Value} {kl : κ → Lit} {ok : κ → Prop} {ev : ε → Value} {dec : Value → Option ε} {z : ε} {w w' : World} {b cnt : Nat} {h : κ → Option ε}

theorem MapG.made (w : World) : MapG P k kl ok dec (w.alloc (.map #[] 0)) w.heap.size (fun _ => none) 0 :=
  ⟨_, World.ownsMap_made w P k (decR dec), rfl, fun x _ => ⟨rfl, fun _ h => by cases h⟩⟩
theorem MapG.lt (m : MapG P k kl ok dec w b h cnt) : b < w.heap.size := by obtain ⟨D, h, _⟩ := m; exact h.lt
theorem MapG.keep (m : MapG P k kl ok dec w b h cnt) (hk : w'.heap[b]? = w.heap[b]?) : MapG P k kl ok dec w' b h cnt := by
  obtain ⟨D, ⟨es, clock, hb, r⟩, r2⟩ := m
  exact ⟨D, ⟨es, clock, hk.trans hb, r⟩, r2⟩
theorem MapG.upd {S : Nat → Prop} (m : MapG P k kl ok dec w b h cnt) (hu : Upd S w w') (hs : ¬ S b) : MapG P k kl ok dec w' b h cnt := m.keep (hu.block b m.lt hs)
theorem MapG.pure (m : MapG P k kl ok dec w b h cnt) (hu : Below w.heap.size w w') : MapG P k kl ok dec w' b h cnt := m.keep (hu.block b m.lt)
theorem MapG.alloc (m : MapG P k kl ok dec w b h cnt) (o : Obj) : MapG P k kl ok dec (w.alloc o) b h cnt := m.pure ((Below.refl _ _).alloc (Nat.le_refl _) _)
theorem MapG.other (m : MapG P k kl ok dec w b h cnt) (p : Addr) (u : Value) (hne : b ≠ p.block) : MapG P k kl ok dec (w.setCell p u) b h cnt := m.keep (Below.heap_setCell _ _ _ _ hne)
theorem MapG.ext {h' : κ → Option ε} (m : MapG P k kl ok dec w b h cnt) (he : ∀ x, ok x → h' x = h x) : MapG P k kl ok dec w b h' cnt := by
  obtain ⟨D, h1, h2, h3⟩ := m
  exact ⟨D, h1, h2, fun x hx => by rw [he x hx]; exact h3 x hx⟩

theorem MapT.isKey (T : MapT P t k e kv kl ok ev dec z) {x : κ} (hx : ok x) : WideAt.IsKeyLit (kl x) := T.K.key (T.hkey x hx)

/-- What a look-up finds. -/
theorem MapG.elem (T : MapT P t k e kv kl ok ev dec z) {x : κ} {D : DataW ε} (hd : Maps.has D (kl x) = (h x).isSome ∧ ∀ y, h x = some y → ∀ z, D.atKey (kl x) z = .held y) {v : Value} {ps : List MemPlace}
    (hv : decR dec v = some (D.atKey (kl x) (.held z), ps)) : v = ev ((h x).getD z) := by
  unfold decR at hv
  cases hdec : dec v with
  | none => rw [hdec] at hv; cases hv
  | some y =>
    rw [hdec] at hv
    simp only [Option.map_some, Option.some.injEq, Prod.mk.injEq] at hv
    rw [T.ed v y hdec]
    congr 1
    cases hh : h x with
    | none =>
      have : Maps.has D (kl x) = false := by rw [hd.1, hh]; rfl
      have e1 := Maps.atKey_of_not_has this (.held z)
      rw [e1] at hv
      injection hv.1
    | some y' =>
      have e1 := hd.2 y' hh (.held z)
      rw [e1] at hv
      injection hv.1

variable [DecidableEq κ]
theorem MapG.put_law (T : MapT P t k e kv kl ok ev dec z) {D : DataW ε} {n : Nat} (hO : w.ownsMap P k (decR dec) b n D) (hd : ∀ x, ok x → Maps.has D (kl x) = (h x).isSome ∧ ∀ y, h x = some y → ∀ z, D.atKey (kl x) z = .held y) {x : κ} (hx : ok x) (y : ε) :
    ∀ u, ok u → Maps.has (D.put (kl x) (.held y)) (kl u) = (if u = x then some y else h u).isSome ∧ ∀ y', (if u = x then some y else h u) = some y' → ∀ z, (D.put (kl x) (.held y)).atKey (kl u) z = .held y' := by
  intro u hu
  by_cases hux : u = x
  · subst hux
    rw [if_pos rfl]
    refine ⟨Maps.has_put_same hO.isMap (T.isKey hu) _, ?_⟩
    intro y' hy z'
    injection hy with hy
    subst hy
    exact Maps.atKey_put_same hO.isMap (T.isKey hu) _ _
  · rw [if_neg hux]
    have hne : kl u ≠ kl x := fun e => hux (T.inj u x hu hx e)
    refine ⟨(Maps.has_put_other hne _).trans (hd u hu).1, fun y' hy z' => ?_⟩
    rw [Maps.atKey_put_other hne]
    exact (hd u hu).2 y' hy z'

theorem MapG.del_law (T : MapT P t k e kv kl ok ev dec z) {D : DataW ε} (hd : ∀ x, ok x → Maps.has D (kl x) = (h x).isSome ∧ ∀ y, h x = some y → ∀ z, D.atKey (kl x) z = .held y) {x : κ} (hx : ok x) :
    ∀ u, ok u → Maps.has (D.del (kl x)) (kl u) = (if u = x then none else h u).isSome ∧ ∀ y', (if u = x then none else h u) = some y' → ∀ z, (D.del (kl x)).atKey (kl u) z = .held y' := by
  intro u hu
  by_cases hux : u = x
  · subst hux
    rw [if_pos rfl]
    exact ⟨Maps.has_del_same, fun y' hy => by cases hy⟩
  · rw [if_neg hux]
    have hne : kl u ≠ kl x := fun e => hux (T.inj u x hu hx e)
    refine ⟨(Maps.has_del_other hne).trans (hd u hu).1, fun y' hy z' => ?_⟩
    rw [Maps.atKey_del_other hne]
    exact (hd u hu).2 y' hy z'
end

section
variable {κ ε : Type} {P : Program} {t k e : TypeId} {kv : κ → Value} {kl : κ → Lit} {ok : κ → Prop} {ev : ε → Value} {dec : Value → Option ε} {z : ε}
variable (w : World) {ops : Array Oper} {rest : List Oper} {o : Oper} {a : Act} {Q : Exit → Act → World → Prop} {b cnt : Nat} {h : κ → Option ε}

/-- 'v, ok := m[k]'. -/
theorem wpList_lookG_ok (T : MapT P t k e kv kl ok ev dec z) (hg : o.guard = none) (m x : Operand) (hop : o.op = Op.lookup t m x true) (hm : a.eval m = .map (some b)) (M : MapG P k kl ok dec w b h cnt) (u : κ) (hx : a.eval x = kv u) (hu : ok u)
    (hK : wpList P ops Q rest (a.put o.dst (.tuple #[ev ((h u).getD z), .bool (h u).isSome])) w) : wpList P ops Q (o :: rest) a w := by
  obtain ⟨D, h1, h2, h3⟩ := M
  refine wpList_lookup_own_ok w hg m x t hop k e T.K T.ht (decR dec) (T.hz w) (.held z) [] (by simp [decR, T.de]) b cnt D hm h1 (kv u) (kl u) hx (T.hkey u hu) ?_
  intro v ps hv
  rw [MapG.elem T (h3 u hu) hv, (h3 u hu).1]
  exact hK

/-- 'm[k]'. -/
theorem wpList_lookG (T : MapT P t k e kv kl ok ev dec z) (hg : o.guard = none) (m x : Operand) (hop : o.op = Op.lookup t m x false) (hm : a.eval m = .map (some b)) (M : MapG P k kl ok dec w b h cnt) (u : κ) (hx : a.eval x = kv u) (hu : ok u)
    (hK : wpList P ops Q rest (a.put o.dst (ev ((h u).getD z))) w) : wpList P ops Q (o :: rest) a w := by
  obtain ⟨D, h1, h2, h3⟩ := M
  refine wpList_plain hg fun K' hK' => ?_
  obtain ⟨v, ps, hrun, hv⟩ := h1.lookup T.K T.ht (T.hz w) (zd := .held z) (zp := []) (by simp [decR, T.de]) (T.hkey u hu)
  unfold Oper.wp
  simp [execOp, hop, hm, hx, hrun, Result.andThen]
  rw [MapG.elem T (h3 u hu) hv]
  exact hK' _ _ hK

/-- 'len(m)'. -/
theorem wpList_lenG (T : MapT P t k e kv kl ok ev dec z) (hg : o.guard = none) (m : Operand) (hop : o.op = Op.call { callee := Callee.builtin Builtin.len, args := #[m], argTypes := #[t] })
    (hm : a.eval m = .map (some b)) (M : MapG P k kl ok dec w b h cnt) (hK : wpList P ops Q rest (a.put o.dst (.int .i64 cnt)) w) : wpList P ops Q (o :: rest) a w := by
  obtain ⟨D, h1, h2, h3⟩ := M
  refine wpList_len_own w hg m t hop k e T.ht (decR dec) b cnt D hm h1 ?_
  rw [h2]; exact hK

variable [DecidableEq κ]
/-- 'm[k] = v'. -/
theorem wpList_putG (T : MapT P t k e kv kl ok ev dec z) (hg : o.guard = none) (m x v : Operand) (hop : o.op = Op.mapUpdate t m x v) (hm : a.eval m = .map (some b)) (M : MapG P k kl ok dec w b h cnt) (hn : cnt < maxLen) (u : κ) (y : ε) (hx : a.eval x = kv u) (hv : a.eval v = ev y) (hu : ok u)
    (hK : ∀ w', MapG P k kl ok dec w' b (fun i => if i = u then some y else h i) (if (h u).isSome then cnt else cnt + 1) → w.grownBy w' (some b) → wpList P ops Q rest (a.put o.dst undef) w') : wpList P ops Q (o :: rest) a w := by
  obtain ⟨D, h1, h2, h3⟩ := M
  refine wpList_mapUpdate_own w hg m x v t hop k e T.K T.ht (decR dec) b cnt D hm h1 hn (kv u) (ev y) (kl u) hx hv (T.hkey u hu) (.held y) [] (by simp [decR, T.de]) ?_
  intro w' g1 g2
  have hsz := Maps.size_put (k := kl u) (h1.tidy T.K) (.held y)
  refine hK w' ⟨_, ?_, ?_, MapG.put_law T h1 h3 hu y⟩ g2
  · have g3 := tight g1
    rw [hsz, (h3 u hu).1, h2] at g3
    exact g3
  · rw [hsz, (h3 u hu).1, h2]

/-- 'delete(m, k)'. -/
theorem wpList_delG (T : MapT P t k e kv kl ok ev dec z) (hg : o.guard = none) (m x : Operand) (hop : o.op = Op.call { callee := Callee.builtin Builtin.delete, args := #[m, x], argTypes := #[t, k] }) (hm : a.eval m = .map (some b)) (M : MapG P k kl ok dec w b h cnt) (u : κ) (hx : a.eval x = kv u) (hu : ok u)
    (hK : ∀ w', MapG P k kl ok dec w' b (fun i => if i = u then none else h i) (if (h u).isSome then cnt - 1 else cnt) → w.grownBy w' (some b) → wpList P ops Q rest (a.put o.dst (.tuple #[])) w') : wpList P ops Q (o :: rest) a w := by
  obtain ⟨D, h1, h2, h3⟩ := M
  refine wpList_delete_own w hg m x t k hop e T.K T.ht (decR dec) b cnt D hm h1 (kv u) (kl u) hx (T.hkey u hu) ?_
  intro w' g1 g2
  have hsz := Maps.size_del (k := kl u) (h1.tidy T.K)
  rw [(h3 u hu).1, h2] at hsz
  have e : Maps.size (D.del (kl u)) = if (h u).isSome then cnt - 1 else cnt := by
    cases hh : (h u).isSome <;> rw [hh] at hsz <;> simp at hsz ⊢ <;> omega
  refine hK w' ⟨_, ?_, e, MapG.del_law T h3 hu⟩ g2.grown
  have g3 := tight g1
  rw [e] at g3
  exact g3
end

/-! ### maps from uint64 to a struct of one uint64 -/
def u64ok (i : Int) : Prop := 0 ≤ i ∧ i < 18446744073709551616
def decU1 : Value → Option Int
  | .agg cs => match cs.toList with | [.int .u64 a] => some a | _ => none
  | _ => none

theorem mapT_u64 {P : Program} {t k e : TypeId} (ht : P.underlying t = some (.map k e)) (hk : P.underlying k = some (.int .u64)) (hz : ∀ w, (zeroValue e).run P w = .ok (.agg #[.int .u64 0]) w) :
    MapT P t k e (fun i : Int => .int .u64 i) (fun i => .int .u64 i) u64ok (fun i : Int => .agg #[.int .u64 i]) decU1 0 where
  ht := ht
  K := Maps.int_keyed hk
  hkey := fun x hx => Maps.keyOf_int_mk hk (WalkArith.wf_u64 (by unfold u64ok at hx; omega))
  inj := fun x y _ _ h => by injection h
  de := fun y => rfl
  ed := fun v y h => by
    unfold decU1 at h
    split at h
    · rename_i cs
      split at h
      · rename_i a ha
        injection h with h
        subst h
        congr 1
        exact Array.toList_inj.1 ha
      · cases h
    · cases h
  hz := hz

end Go.Proofs.Ytgpdbifgbabnnaa
