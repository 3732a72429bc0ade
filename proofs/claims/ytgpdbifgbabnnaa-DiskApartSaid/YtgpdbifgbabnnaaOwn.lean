/- General lemmas on slices that a call owns ('Own'), and the law of append for them. Conditions: none. -/
import Derived.Test.YtgpdbifgbabnnaaLib
import Derived.Maps.AppendAt
namespace Go.Proofs.Ytgpdbifgbabnnaa
open Go.RowKit

/-- The value v is a slice whose array is the call's own, in a block from base on; it reads as the rows of L. -/
def Own {α : Type} (base : Nat) (e : TypeId) (m : Nat) (enc : α → List Value) (w : World) (v : Value) (L : List α) : Prop :=
  w.ownsRow base e m v L.length (L.flatMap enc)

section
variable {α : Type} {base : Nat} {e : TypeId} {m : Nat} {enc : α → List Value} {w w' : World} {v : Value} {L : List α}

theorem Own.nil : Own base e m enc w (.slice none 0 0) [] := World.ownsRow_nil _ _ _ _
theorem Own.slc (hm : ∀ x, (enc x).length = m) (h : Own base e m enc w v L) : Slc enc m w v L := Slc.own hm h rfl
theorem Own.keep (h : Own base e m enc w v L) (hk : ∀ k, v.ownBlock = some k → k < w.heap.size → w'.heap[k]? = w.heap[k]?) : Own base e m enc w' v L := by
  refine ⟨h.1, ?_⟩
  rcases h.2 with hn | ⟨g, cap, cur, rfl, hb, hg, rest⟩
  · exact .inl hn
  · exact .inr ⟨g, cap, cur, rfl, hb, (hk g rfl (Array.getElem?_eq_some_iff.1 hg).1).trans hg, rest⟩
theorem Own.upd {S : Nat → Prop} (h : Own base e m enc w v L) (hu : Upd S w w') (hs : ∀ k, v.ownBlock = some k → ¬ S k) : Own base e m enc w' v L :=
  h.keep fun k hk hl => hu.block k hl (hs k hk)
theorem Own.pure (h : Own base e m enc w v L) (hu : Below w.heap.size w w') : Own base e m enc w' v L :=
  h.keep fun k _ hl => hu.block k hl
theorem Own.alloc (h : Own base e m enc w v L) (o : Obj) : Own base e m enc (w.alloc o) v L := h.pure ((Below.refl _ _).alloc (Nat.le_refl _) _)
theorem Own.drew (h : Own base e m enc w v L) : Own base e m enc w.drew v L := h
theorem Own.other (h : Own base e m enc w v L) (p : Addr) (u : Value) (hne : ∀ k, v.ownBlock = some k → k ≠ p.block) : Own base e m enc (w.setCell p u) v L :=
  h.keep fun k hk _ => Below.heap_setCell _ _ _ _ (hne k hk)
theorem Own.lt (h : Own base e m enc w v L) {k : Nat} (hk : v.ownBlock = some k) : k < w.heap.size := (World.ownsRow.lt h k hk).2
theorem Own.ge (h : Own base e m enc w v L) {k : Nat} (hk : v.ownBlock = some k) : base ≤ k := (World.ownsRow.lt h k hk).1
theorem Own.rebase {b' : Nat} (h : Own base e m enc w v L) (hb : ∀ k, v.ownBlock = some k → b' ≤ k) : Own b' e m enc w v L := by
  refine ⟨h.1, ?_⟩
  rcases h.2 with hn | ⟨g, cap, cur, rfl, _, hg, rest⟩
  · exact .inl hn
  · exact .inr ⟨g, cap, cur, rfl, hb g rfl, hg, rest⟩
theorem Own.shape (h : Own base e m enc w v L) (hL : L ≠ []) : ∃ g cap, v = .slice (some ⟨g, 0, none⟩) L.length cap ∧ base ≤ g ∧ g < w.heap.size := by
  rcases h.2 with ⟨_, h0⟩ | ⟨g, cap, cur, rfl, hb, hg, _⟩
  · exact absurd (List.eq_nil_of_length_eq_zero h0) hL
  · exact ⟨g, cap, rfl, hb, (Array.getElem?_eq_some_iff.1 hg).1⟩
theorem Own.cases (h : Own base e m enc w v L) : (v = .slice none 0 0 ∧ L = []) ∨ ∃ g cap, v = .slice (some ⟨g, 0, none⟩) L.length cap ∧ base ≤ g ∧ g < w.heap.size ∧ L.length ≤ cap ∧ cap ≤ maxLen := by
  rcases h.2 with ⟨hv, h0⟩ | ⟨g, cap, cur, rfl, hb, hg, h1, h2, _⟩
  · exact .inl ⟨hv, List.eq_nil_of_length_eq_zero h0⟩
  · exact .inr ⟨g, cap, rfl, hb, (Array.getElem?_eq_some_iff.1 hg).1, h1, h2⟩
theorem Own.cell (hm : ∀ x, (enc x).length = m) {g n cap : Nat} (h : Own base e m enc w (.slice (some ⟨g, 0, none⟩) n cap) L) (i : Nat) (hi : i < L.length) (j : Nat) (u : Value) (hu : (enc L[i])[j]? = some u) :
    w.cell? ⟨g, i * m + j, none⟩ = some u := by
  have h1 := World.ownsRow.cells h (g := g) rfl (i * m + j) u (flat_get hm L i hi j u hu)
  have e : (⟨g, 0, none⟩ : Addr).add (i * m + j) = ⟨g, i * m + j, none⟩ := by unfold Addr.add; split <;> simp_all
  rw [← e]; exact h1
theorem Own.frozen {g n cap : Nat} (h : Own base e m enc w (.slice (some ⟨g, 0, none⟩) n cap) L) (j : Nat) : w.frozen? ⟨g, j, none⟩ = false := by
  rcases h.2 with ⟨h', _⟩ | ⟨g', cap', cur, h', hb, hg, _⟩
  · simp at h'
  · simp only [Value.slice.injEq, Option.some.injEq, Addr.mk.injEq, and_true] at h'
    obtain ⟨rfl, _⟩ := h'
    simp [World.frozen?, hg]

theorem flat_set (hm : ∀ x, (enc x).length = m) : ∀ (L : List α) (i : Nat) (h : i < L.length) (j : Nat) (u : Value) (x' : α), j < m → enc x' = (enc L[i]).set j u →
    (L.set i x').flatMap enc = (L.flatMap enc).set (i * m + j) u
  | [], i, h, _, _, _, _, _ => absurd h (by simp)
  | x :: L, 0, _, j, u, x', hj, hx => by
    simp only [List.set_cons_zero, List.flatMap_cons, Nat.zero_mul, Nat.zero_add]
    rw [List.set_append_left _ _ (by rw [hm]; exact hj)]
    simp only [List.getElem_cons_zero] at hx
    rw [hx]
  | x :: L, i + 1, h, j, u, x', hj, hx => by
    simp only [List.set_cons_succ, List.flatMap_cons]
    rw [flat_set hm L i (by simpa using h) j u x' hj (by simpa using hx), List.set_append_right _ _ (by rw [hm, Nat.add_mul]; omega)]
    congr 2
    rw [hm, Nat.add_mul]; omega

/-- A store into one cell of a row. -/
theorem Own.set (hm : ∀ x, (enc x).length = m) {g n cap : Nat} (h : Own base e m enc w (.slice (some ⟨g, 0, none⟩) n cap) L) (i : Nat) (hi : i < L.length) (j : Nat) (u : Value) (x' : α)
    (hj : j < m) (hx : enc x' = (enc L[i]).set j u) : Own base e m enc (w.setCell ⟨g, i * m + j, none⟩ u) (.slice (some ⟨g, 0, none⟩) n cap) (L.set i x') := by
  have hn : n = L.length := by
    rcases h.2 with ⟨h', _⟩ | ⟨_, _, _, h', _⟩
    · simp at h'
    · simp only [Value.slice.injEq] at h'; exact h'.2.1
  subst hn
  have := (World.ownsRow.stored h (i * m + j) u).1
  unfold Own
  rw [List.length_set, flat_set hm L i hi j u x' hj hx]
  exact this

end

/-- The table's row of a slice's element type. -/
structure ElemT (P : Program) (t e : TypeId) (m bytes : Nat) : Prop where
  ht : P.underlying t = some (.slice e)
  ex : ∃ (i : TypeInfo) (z : Value), P.info? e = some i ∧ i.zero = some z ∧ i.size = m ∧ i.bytes = bytes ∧ z.cells.size = m
  pos : 0 < m

theorem ElemT.mk' {P : Program} {t e : TypeId} {z : Value} {m bytes : Nat} (ht : P.underlying t = some (.slice e)) (h : (P.info? e).map (fun i => (i.zero, i.size, i.bytes)) = some (some z, m, bytes))
    (hz : z.cells.size = m) (hp : 0 < m) : ElemT P t e m bytes := by
  obtain ⟨i, h1, h2, h3, h4⟩ := info_parts h
  exact ⟨ht, ⟨i, z, h1, h2, h3, h4, hz⟩, hp⟩

theorem run_append_owned_none' {P : Program} (w : World) (base : Nat) (t ty e : TypeId) (i : TypeInfo) (size c : Nat) (ht : P.underlying t = some (.slice e)) (hi : P.info? e = some i)
    (v : Value) (n : Nat) (xs : List Value) (hown : w.ownsRow base e size v n xs) :
    (Builtin.append_ #[t, t] ty #[v, .slice none 0 c]).run P w = .ok v w := by
  rcases hown.2 with ⟨rfl, rfl⟩ | ⟨g, cap, cur, rfl, _, _, hnc, _⟩
  · simp [Builtin.append_, run_underlying ht, sizeOf, typeInfo, hi, Builtin.lenOf, Builtin.firstCells]
  · simp [Builtin.append_, run_underlying ht, sizeOf, typeInfo, hi, Builtin.lenOf, Builtin.firstCells, hnc, storeCells]

/-- append of the rows of a slice (nil or not) onto a slice of the call's own. -/
theorem wpList_app {α : Type} {enc : α → List Value} {m bytes base : Nat} {P : Program} {w : World} {ops : Array Oper} {rest : List Oper} {o : Oper} {a : Act} {Q : Exit → Act → World → Prop}
    (hgd : o.guard = none) (s x : Operand) (t e : TypeId) (ho : o.op = .call { callee := .builtin .append, args := #[s, x], argTypes := #[t, t] })
    (hE : ElemT P t e m bytes) (hm : ∀ x, (enc x).length = m) (hone : ∀ x, ∀ u ∈ enc x, u.oneCell' = true)
    (v : Value) (L : List α) (hs : a.eval s = v) (hown : Own base e m enc w v L)
    (y : Value) (L2 : List α) (hx : a.eval x = y) (hsrc : Slc enc m w y L2)
    (hlen : (L.length + L2.length) ≤ maxLen) (hbytes : (L.length + L2.length) * bytes ≤ 140737488355328) (hbase : base ≤ w.heap.size)
    (h : ∀ v' w', Own base e m enc w' v' (L ++ L2) → w.grownBy w' v.ownBlock → (v'.ownBlock = v.ownBlock ∨ v'.ownBlock = some w.heap.size) →
      (v' = .slice none 0 0 ∨ ∃ g cap, v' = .slice (some ⟨g, 0, none⟩) (L.length + L2.length) cap) → wpList P ops Q rest (a.put o.dst v') w') :
    wpList P ops Q (o :: rest) a w := by
  obtain ⟨i, z, hi, hz, hsize, hby, hzs⟩ := hE.ex
  have hL2 : (L2.flatMap enc).length = L2.length * m := flat_len hm L2
  have key : ∀ v' w', w'.ownsRow base e m v' (L.length + L2.length) (L.flatMap enc ++ L2.flatMap enc) → w.grownBy w' v.ownBlock → (v'.ownBlock = v.ownBlock ∨ v'.ownBlock = some w.heap.size) → wpList P ops Q rest (a.put o.dst v') w' := by
    intro v' w' h1 h2 h4
    have h1' : Own base e m enc w' v' (L ++ L2) := by unfold Own; rw [List.length_append, List.flatMap_append]; exact h1
    refine h v' w' h1' h2 h4 ?_
    rcases h1'.cases with ⟨hv, _⟩ | ⟨g, cap, hv, _⟩
    · exact .inl hv
    · exact .inr ⟨g, cap, by simpa using hv⟩
  have nilcase : y = .slice none 0 0 → L2 = [] → wpList P ops Q (o :: rest) a w := by
    rintro rfl rfl
    refine wpList_plain hgd fun K hK => ?_
    have hr := run_append_owned_none (P := P) w base t o.type e i m hE.ht hi v L.length (L.flatMap enc) hown
    unfold Oper.wp execOp
    simp only [ho, resolve, invoke, builtin, Sem.run_bind, Sem.run_pure, Result.andThen_ok, List.map_toArray, List.map_cons, List.map_nil, hs, hx, hr]
    exact hK _ _ (key v w (by simpa [Own] using hown) (World.grownBy.refl _ _) (.inl rfl))
  rcases hsrc with ⟨ya, cap, rfl, hcap, rfl⟩ | ⟨g, off, cap, rfl, hc1, hc2, hcell⟩
  · cases ya with
    | none =>
      by_cases hc0 : cap = 0
      · subst hc0; exact nilcase rfl rfl
      · refine wpList_plain hgd fun K hK => ?_
        have hr := run_append_owned_none' (P := P) w base t o.type e i m cap hE.ht hi v L.length (L.flatMap enc) hown
        unfold Oper.wp execOp
        simp only [ho, resolve, invoke, builtin, Sem.run_bind, Sem.run_pure, Result.andThen_ok, List.map_toArray, List.map_cons, List.map_nil, hs, hx, hr]
        exact hK _ _ (key v w (by simpa [Own] using hown) (World.grownBy.refl _ _) (.inl rfl))
    | some ya =>
      refine wpList_append_own_at w hgd s x t ho base e i z m bytes hE.ht hi hz hsize hby hzs hE.pos v L.length (L.flatMap enc) hs hown ya 0 cap [] hx (by simp) (by simp) (by simp) (by simpa using hlen) (by simpa using hbytes) hbase ?_
      intro v' w' h1 h2 _ h4
      exact key v' w' (by simpa using h1) h2 h4
  · refine wpList_append_own_at w hgd s x t ho base e i z m bytes hE.ht hi hz hsize hby hzs hE.pos v L.length (L.flatMap enc) hs hown ⟨g, off, none⟩ L2.length cap (L2.flatMap enc) hx hL2 ?_ ?_ hlen hbytes hbase ?_
    · intro j u hu
      have hj : j < L2.length * m := by rw [← hL2]; exact (List.getElem?_eq_some_iff.1 hu).1
      have hi' : j / m < L2.length := Nat.div_lt_of_lt_mul (by rw [Nat.mul_comm]; exact hj)
      have hjm : j / m * m + j % m = j := by rw [Nat.mul_comm]; exact Nat.div_add_mod j m
      have hlt : j % m < (enc L2[j / m]).length := by rw [hm]; exact Nat.mod_lt _ hE.pos
      have h1 := flat_get hm L2 (j / m) hi' (j % m) (enc L2[j / m])[j % m] (List.getElem?_eq_getElem hlt)
      rw [hjm, hu] at h1
      have h2 := hcell (j / m) hi' (j % m) u (by rw [List.getElem?_eq_getElem hlt]; exact h1.symm)
      have e1 : (⟨g, off, none⟩ : Addr).add j = ⟨g, off + j / m * m + j % m, none⟩ := by
        rw [Nat.add_assoc, hjm]; unfold Addr.add; split <;> simp_all
      rw [e1]; exact h2
    · intro u hu
      obtain ⟨y, _, hy⟩ := List.mem_flatMap.1 hu
      exact hone y u hy
    · intro v' w' h1 h2 _ h4
      exact key v' w' h1 h2 h4

/-- append of one row, which lies in a block of its own. -/
theorem wpList_app1 {α : Type} {enc : α → List Value} {m bytes base : Nat} {P : Program} {w : World} {ops : Array Oper} {rest : List Oper} {o : Oper} {a : Act} {Q : Exit → Act → World → Prop}
    (hgd : o.guard = none) (s x : Operand) (t e : TypeId) (ho : o.op = .call { callee := .builtin .append, args := #[s, x], argTypes := #[t, t] })
    (hE : ElemT P t e m bytes) (hm : ∀ x, (enc x).length = m) (hone : ∀ x, ∀ u ∈ enc x, u.oneCell' = true)
    (v : Value) (L : List α) (hs : a.eval s = v) (hown : Own base e m enc w v L)
    (g cap : Nat) (y : α) (hx : a.eval x = .slice (some ⟨g, 0, none⟩) 1 cap) (hy : ∀ j u, (enc y)[j]? = some u → w.cell? ⟨g, j, none⟩ = some u)
    (hbytes : (L.length + 1) * bytes ≤ 140737488355328) (hlen : L.length + 1 ≤ maxLen) (hbase : base ≤ w.heap.size)
    (h : ∀ g' cap' w', Own base e m enc w' (.slice (some ⟨g', 0, none⟩) (L.length + 1) cap') (L ++ [y]) → w.grownBy w' v.ownBlock → (v.ownBlock = some g' ∨ g' = w.heap.size) →
      wpList P ops Q rest (a.put o.dst (.slice (some ⟨g', 0, none⟩) (L.length + 1) cap')) w') :
    wpList P ops Q (o :: rest) a w := by
  obtain ⟨i, z, hi, hz, hsize, hby, hzs⟩ := hE.ex
  refine wpList_append_own_at w hgd s x t ho base e i z m bytes hE.ht hi hz hsize hby hzs hE.pos v L.length (L.flatMap enc) hs hown ⟨g, 0, none⟩ 1 cap (enc y) hx (by rw [hm]; omega) ?_ (hone y) hlen hbytes hbase ?_
  · intro j u hu
    have e1 : (⟨g, 0, none⟩ : Addr).add j = ⟨g, j, none⟩ := by unfold Addr.add; split <;> simp_all
    rw [e1]; exact hy j u hu
  · intro v' w' h1 h2 h3 h4
    have h1' : Own base e m enc w' v' (L ++ [y]) := by unfold Own; rw [List.length_append, List.flatMap_append]; simpa using h1
    obtain ⟨g', cap', hv, _⟩ := h1'.shape (by simp)
    have hv' : v' = .slice (some ⟨g', 0, none⟩) (L.length + 1) cap' := by simpa using hv
    subst hv'
    exact h g' cap' w' h1' h2 (by
      rcases h4 with h4 | h4
      · exact .inl h4.symm
      · exact .inr (by simpa [Value.ownBlock] using h4))

/-- The table's row of a slice's element type, with its zero's cells. -/
structure ElemZ (P : Program) (t e : TypeId) (m bytes : Nat) (zs : List Value) : Prop where
  ht : P.underlying t = some (.slice e)
  ex : ∃ (i : TypeInfo) (z : Value), P.info? e = some i ∧ i.zero = some z ∧ i.size = m ∧ i.bytes = bytes ∧ z.cells = zs.toArray
  pos : 0 < m
  len : zs.length = m
theorem ElemZ.mk' {P : Program} {t e : TypeId} {z : Value} {m bytes : Nat} {zs : List Value} (ht : P.underlying t = some (.slice e)) (h : (P.info? e).map (fun i => (i.zero, i.size, i.bytes)) = some (some z, m, bytes))
    (hz : z.cells = zs.toArray) (hp : 0 < m) (hl : zs.length = m) : ElemZ P t e m bytes zs := by
  obtain ⟨i, h1, h2, h3, h4⟩ := info_parts h
  exact ⟨ht, ⟨i, z, h1, h2, h3, h4, hz⟩, hp, hl⟩
theorem ElemZ.toT {P : Program} {t e : TypeId} {m bytes : Nat} {zs : List Value} (h : ElemZ P t e m bytes zs) : ElemT P t e m bytes := by
  obtain ⟨ht, ⟨i, z, h1, h2, h3, h4, h5⟩, hp, hl⟩ := h
  exact ⟨ht, ⟨i, z, h1, h2, h3, h4, by rw [h5]; simpa using hl⟩, hp⟩

theorem flat_replicate_get {α : Type} {enc : α → List Value} {m : Nat} (hm : ∀ x, (enc x).length = m) (hp : 0 < m) (x0 : α) : ∀ (n j : Nat), j < n * m → ((List.replicate n x0).flatMap enc)[j]? = (enc x0)[j % m]?
  | 0, j, h => by simp at h
  | n + 1, j, h => by
    simp only [List.replicate_succ, List.flatMap_cons]
    by_cases hj : j < m
    · rw [List.getElem?_append_left (by rw [hm]; exact hj), Nat.mod_eq_of_lt hj]
    · rw [List.getElem?_append_right (by rw [hm]; omega), hm, flat_replicate_get hm hp x0 n (j - m) (by rw [Nat.add_mul] at h; omega)]
      rw [← Nat.mod_eq_sub_mod (by omega)]

theorem made_flat {α : Type} {enc : α → List Value} {m : Nat} (hm : ∀ x, (enc x).length = m) (hp : 0 < m) (x0 : α) (n : Nat) :
    (madeCells (enc x0).toArray (n * m)).toList = (List.replicate n x0).flatMap enc := by
  apply List.ext_getElem?
  intro j
  by_cases hj : j < n * m
  · rw [flat_replicate_get hm hp x0 n j hj]
    have hlt : j % m < (enc x0).length := by rw [hm]; exact Nat.mod_lt _ hp
    have hlt' : j % (enc x0).length < (enc x0).length := Nat.mod_lt _ (by omega)
    simp [madeCells, hj, hm, List.getElem?_eq_getElem hlt]
  · rw [List.getElem?_eq_none (by simp [size_madeCells]; omega), List.getElem?_eq_none (by rw [flat_len hm]; simp; omega)]

/-- make of a slice, full. -/
theorem wpList_mk {α : Type} {enc : α → List Value} {m bytes base : Nat} {P : Program} {w : World} {ops : Array Oper} {rest : List Oper} {o : Oper} {a : Act} {Q : Exit → Act → World → Prop}
    (hgd : o.guard = none) (l c : Operand) (t e : TypeId) (hop : o.op = Op.makeSlice t l c) (x0 : α) (hE : ElemZ P t e m bytes (enc x0)) (hm : ∀ x, (enc x).length = m)
    (kl kc : IntKind) (N C : Int) (n : Nat) (hl : a.eval l = .int kl N) (hc : a.eval c = .int kc C) (hL : N = (n : Int)) (hC : C = (n : Int)) (b2 : bytes * n ≤ 281474976710656) (b3 : n ≤ maxLen) (b4 : base ≤ w.heap.size)
    (h : ∀ w', Own base e m enc w' (.slice (some ⟨w.heap.size, 0, none⟩) n n) (List.replicate n x0) → w.grownBy w' none → wpList P ops Q rest (a.put o.dst (.slice (some ⟨w.heap.size, 0, none⟩) n n)) w') :
    wpList P ops Q (o :: rest) a w := by
  obtain ⟨i, z, hi, hz, hsize, hby, hzs⟩ := hE.ex
  refine wpList_make_full w hgd l c t hop base e i z m hE.ht hi hz hsize kl kc N C n hl hc hL hC (by rw [hby]; exact b2) b3 b4 ?_
  intro w' h1 h2
  refine h w' ?_ h2
  unfold Own
  rw [List.length_replicate, ← made_flat hm hE.pos x0 n, ← hzs]
  exact h1

/-- A literal slice of no elements. -/
theorem Own.made0 {α : Type} {enc : α → List Value} {m : Nat} (w : World) (e : TypeId) {base : Nat} (hb : base ≤ w.heap.size) : Own base e m enc (w.alloc (.cells #[] e)) (.slice (some ⟨w.heap.size, 0, none⟩) 0 0) ([] : List α) :=
  ⟨by simp, .inr ⟨w.heap.size, 0, #[], rfl, hb, heap_alloc_new w _, by simp, by simp, by simp, by simp⟩⟩

end Go.Proofs.Ytgpdbifgbabnnaa
