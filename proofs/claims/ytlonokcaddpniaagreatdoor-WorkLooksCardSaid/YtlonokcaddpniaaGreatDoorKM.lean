/- The program's reader of values: 'many': what stands behind its parts. Conditions: none. (Texts joined.) -/
import Derived.Test.YtlonokcaddpniaaGreatDoorKG
import Derived.Deep.CutRange
set_option linter.unusedSimpArgs false
set_option linter.unusedVariables false
namespace Go.Proofs.YtlonokcaddpniaaGreatDoor
open Go.RowKit
theorem info_strs : (Tryz.prog.info? 9).map (fun i => (i.zero, i.size, i.bytes)) = some (some (.string ⟨#[]⟩), 1, 16) := by kernel_rfl
theorem elem_strs : ElemT Tryz.prog 28 9 1 16 := ElemT.mk' Tryz.underlying28 info_strs rfl (by omega)
theorem info_val : (Tryz.prog.info? 31).map (fun i => (i.zero, i.size, i.bytes)) = some (some (.agg #[.int .u8 0, .int .u64 0, .string ⟨#[]⟩, .slice none 0 0, .slice none 0 0]), 5, 80) := by kernel_rfl
theorem elem_val : ElemT Tryz.prog 29 31 5 80 := ElemT.mk' Tryz.underlying29 info_val rfl (by omega)
/-- append of one row, which lies in a block of its own; nothing is asked of the other rows. -/
theorem wpList_appOne {α : Type} {enc : α → List Value} {m bytes base : Nat} {P : Program} {w : World} {ops : Array Oper} {rest : List Oper} {o : Oper} {a : Act} {Q : Exit → Act → World → Prop}
    (hgd : o.guard = none) (s x : Operand) (t e : TypeId) (ho : o.op = .call { callee := .builtin .append, args := #[s, x], argTypes := #[t, t] })
    (hE : ElemT P t e m bytes) (hm : ∀ x, (enc x).length = m) 
    (v : Value) (L : List α) (hs : a.eval s = v) (hown : Own base e m enc w v L)
    (g cap : Nat) (y : α) (hone : ∀ u ∈ enc y, u.oneCell' = true) (hx : a.eval x = .slice (some ⟨g, 0, none⟩) 1 cap) (hy : ∀ j u, (enc y)[j]? = some u → w.cell? ⟨g, j, none⟩ = some u)
    (hbytes : (L.length + 1) * bytes ≤ 140737488355328) (hlen : L.length + 1 ≤ maxLen) (hbase : base ≤ w.heap.size)
    (h : ∀ g' cap' w', Own base e m enc w' (.slice (some ⟨g', 0, none⟩) (L.length + 1) cap') (L ++ [y]) → w.grownBy w' v.ownBlock → (v.ownBlock = some g' ∨ g' = w.heap.size) →
      wpList P ops Q rest (a.put o.dst (.slice (some ⟨g', 0, none⟩) (L.length + 1) cap')) w') :
    wpList P ops Q (o :: rest) a w := by
  obtain ⟨i, z, hi, hz, hsize, hby, hzs⟩ := hE.ex; refine wpList_append_own_at w hgd s x t ho base e i z m bytes hE.ht hi hz hsize hby hzs hE.pos v L.length (L.flatMap enc) hs hown ⟨g, 0, none⟩ 1 cap (enc y) hx (by rw [hm]; omega) ?_ hone hlen hbytes hbase ?_
  · intro j u hu; have e1 : (⟨g, 0, none⟩ : Addr).add j = ⟨g, j, none⟩ := by unfold Addr.add; split <;> simp_all
    rw [e1]; exact hy j u hu
  · intro v' w' h1 h2 h3 h4; have h1' : Own base e m enc w' v' (L ++ [y]) := by unfold Own; rw [List.length_append, List.flatMap_append]; simpa using h1
    obtain ⟨g', cap', hv, _⟩ := h1'.shape (by simp); have hv' : v' = .slice (some ⟨g', 0, none⟩) (L.length + 1) cap' := by simpa using hv
    subst hv'
    exact h g' cap' w' h1' h2 (by
      rcases h4 with h4 | h4
      · exact .inl h4.symm
      · exact .inr (by simpa [Value.ownBlock] using h4))
/-- The value of which nothing is known yet. -/
def VT.zero : VT := .mk 0 0 ⟨#[]⟩ (.slice none 0 0) (.slice none 0 0) [] []
theorem own_ne {α β : Type} {b b' e e' m m' : Nat} {enc : α → List Value} {enc' : β → List Value} {w : World} {v v' : Value} {L : List α} {L' : List β} (h : Own b e m enc w v L) (h' : Own b' e' m' enc' w v' L') (hne : e ≠ e') {i : Nat} (hi : v.ownBlock = some i) (hj : v'.ownBlock = some i) : False := by
  rcases h.2 with ⟨rfl, _⟩ | ⟨g, cap, cur, rfl, hb, hg, _⟩
  · simp [Value.ownBlock] at hi
  · rcases h'.2 with ⟨rfl, _⟩ | ⟨g', cap', cur', rfl, hb', hg', _⟩
    · simp [Value.ownBlock] at hj
    · simp only [Value.ownBlock, Option.map_some, Option.some.injEq] at hi hj; subst hi hj; rw [hg] at hg'; simp only [Option.some.injEq, Obj.cells.injEq] at hg'; exact hne hg'.2.1
/-- Where the parts of the values that are read may lie. -/
def MP (B : Nat) (kv lv : Value) (i : Nat) : Prop := B ≤ i ∧ kv.ownBlock ≠ some i ∧ lv.ownBlock ≠ some i
structure MSt (w0 : World) (qb rb vb xb : Nat) (k : Int) (w : World) (left : Int) (b : List UInt8) (bad : Bool) (kv lv : Value) (ks : List ByteArray) (L : List VT) : Prop where
  pr : PR w qb rb vb left b bad
  x : Blk w xb [.int .u8 k, .int .u64 0, .string ⟨#[]⟩, kv, lv]
  ko : Own w0.heap.size 9 1 strEnc w kv ks
  lo : Own w0.heap.size 31 5 vEnc w lv L
  rd : ∀ x ∈ L, Rd (MP w0.heap.size kv lv) w x
  up : Upd (Three qb vb xb) w0 w
  lt : qb < xb
  xl : xb < w0.heap.size
section
variable {w0 w w' : World} {qb rb vb xb : Nat} {k left : Int} {b : List UInt8} {bad : Bool} {kv lv : Value} {ks : List ByteArray} {L : List VT}
theorem MSt.moved {S : Nat → Prop} {left' : Int} {b' : List UInt8} {bad' : Bool} (h : MSt w0 qb rb vb xb k w left b bad kv lv ks L) (p : PR w' qb rb vb left' b' bad') (hu : Upd S w w') (hS : ∀ i, S i → i = qb ∨ i = vb) : MSt w0 qb rb vb xb k w' left' b' bad' kv lv ks L := by
  have hv := h.pr.vq; have h1 := h.lt; have h2 := h.xl; have hs : ∀ i, w0.heap.size ≤ i → ¬ S i := fun i hi e => by rcases hS i e with e | e <;> omega
  exact ⟨p, h.x.upd hu (fun e => by rcases hS _ e with e | e <;> omega), h.ko.upd hu (fun i hi => hs i (h.ko.ge hi)), h.lo.upd hu (fun i hi => hs i (h.lo.ge hi)), fun x hx => (h.rd x hx).upd hu (fun i hi => hs i hi.1),
    h.up.trans hu (fun i e _ => by rcases hS _ e with e | e; exact .inl e; exact .inr (.inl e)), h.lt, h.xl⟩
theorem MSt.pure (h : MSt w0 qb rb vb xb k w left b bad kv lv ks L) (hB : Below w.heap.size w w') : MSt w0 qb rb vb xb k w' left b bad kv lv ks L :=
  ⟨h.pr.pure hB, h.x.pure hB, h.ko.pure hB, h.lo.pure hB, fun x hx => (h.rd x hx).pure hB, h.up.trans (Upd.of_below (S := fun _ => False) hB) (fun _ e _ => e.elim), h.lt, h.xl⟩
theorem below_refl_dr (w : World) : Below w.heap.size w w.drew := (Below.refl _ w).drew
theorem MSt.alloc (h : MSt w0 qb rb vb xb k w left b bad kv lv ks L) (o : Obj) : MSt w0 qb rb vb xb k (w.alloc o) left b bad kv lv ks L := h.pure ((Below.refl _ _).alloc (Nat.le_refl _) _)
theorem MSt.drew (h : MSt w0 qb rb vb xb k w left b bad kv lv ks L) : MSt w0 qb rb vb xb k w.drew left b bad kv lv ks L := h.pure (below_refl_dr w)
/-- Behind an append to the keys: the value's own block, and what stands when it is stored. -/
theorem MSt.key {key : ByteArray} {g cap : Nat} (h : MSt w0 qb rb vb xb k w left b bad kv lv ks L) (hO : Own w0.heap.size 9 1 strEnc w' (.slice (some ⟨g, 0, none⟩) (ks.length + 1) cap) (ks ++ [key])) (hg : w.grownBy w' kv.ownBlock) (hf : kv.ownBlock = some g ∨ g = w.heap.size) :
    Blk w' xb [.int .u8 k, .int .u64 0, .string ⟨#[]⟩, kv, lv] ∧ MSt w0 qb rb vb xb k (w'.setCell ⟨xb, 3, none⟩ (.slice (some ⟨g, 0, none⟩) (ks.length + 1) cap)) left b bad (.slice (some ⟨g, 0, none⟩) (ks.length + 1) cap) lv (ks ++ [key]) L := by
  have hv := h.pr.vq; have h1 := h.lt; have h2 := h.xl; have hu : Upd (fun i => kv.ownBlock = some i) w w' := Upd.grown hg (fun i e => e); have hs := Upd.set (S := fun i => i = xb) (w := w') (p := ⟨xb, 3, none⟩) rfl (.slice (some ⟨g, 0, none⟩) (ks.length + 1) cap); have hx := h.x.upd hu (fun e => by have := h.ko.ge e; omega)
  refine ⟨hx, (h.pr.above hu (fun i e => by have := h.ko.ge e; omega)).above hs (fun i e => by omega), hx.set 3 _, hO.upd hs (fun i hi e => by have := hO.ge hi; omega),
    (h.lo.upd hu (fun i hi e => own_ne h.lo h.ko (by decide) hi e)).upd hs (fun i hi e => by have := h.lo.ge hi; omega), fun x hx => ?_, ?_, h.lt, h.xl⟩
  · have r := (h.rd x hx).weaken (Q := fun i => MP w0.heap.size kv lv i ∧ g ≠ i) (fun i hi hm => ⟨hm, fun e => by
      rcases hf with hf | hf
      · exact hm.2.1 (by rw [hf, e])
      · omega⟩)
    have r2 := (r.upd hu (fun i hi e => hi.1.2.1 e)).upd hs (fun i hi e => by have := hi.1.1; omega); exact r2.weaken (fun i _ hi => ⟨hi.1.1, fun e => hi.2 (by simpa [Value.ownBlock] using e), hi.1.2.2⟩)
  · exact (h.up.trans hu (fun i e hi => by have := h.ko.ge e; omega)).trans hs (fun i e hi => .inr (.inr e))
abbrev set5r (w : World) (g j : Nat) (v0 v1 v2 v3 v4 : Value) : World := ((((w.setCell ⟨g, j * 5, none⟩ v0).setCell ⟨g, j * 5 + 1, none⟩ v1).setCell ⟨g, j * 5 + 2, none⟩ v2).setCell ⟨g, j * 5 + 3, none⟩ v3).setCell ⟨g, j * 5 + 4, none⟩ v4
theorem Upd.row5 (w : World) (g j : Nat) (v0 v1 v2 v3 v4 : Value) : Upd (fun i => i = g) w (set5r w g j v0 v1 v2 v3 v4) := by
  have s := fun (u : World) (o : Nat) (v : Value) => Upd.set (S := fun i => i = g) (w := u) (p := ⟨g, o, none⟩) rfl v
  exact ((((s _ _ _).trans (s _ _ _) (fun _ h _ => h)).trans (s _ _ _) (fun _ h _ => h)).trans (s _ _ _) (fun _ h _ => h)).trans (s _ _ _) (fun _ h _ => h)
theorem Own.row5 {base : Nat} {e : TypeId} {w : World} {L : List VT} {g n cap : Nat} (h : Own base e 5 vEnc w (.slice (some ⟨g, 0, none⟩) n cap) L) (i : Nat) (hi : i < L.length) (t : VT) :
    Own base e 5 vEnc (set5r w g i (.int .u8 t.k) (.int .u64 t.n) (.string t.s) t.kv t.lv) (.slice (some ⟨g, 0, none⟩) n cap) (L.set i t) := by
  obtain ⟨z, hz⟩ : ∃ z, L[i] = z := ⟨_, rfl⟩
  have s0 := h.set vEnc_len i hi 0 (.int .u8 t.k) (.mk t.k z.n z.s z.kv z.lv [] []) (by omega) (by rw [hz]; rfl); have s1 := s0.set vEnc_len i (by simpa using hi) 1 (.int .u64 t.n) (.mk t.k t.n z.s z.kv z.lv [] []) (by omega) (by rw [List.getElem_set_self]; rfl); have s2 := s1.set vEnc_len i (by simpa using hi) 2 (.string t.s) (.mk t.k t.n t.s z.kv z.lv [] []) (by omega) (by rw [List.getElem_set_self]; rfl); have s3 := s2.set vEnc_len i (by simpa using hi) 3 t.kv (.mk t.k t.n t.s t.kv z.lv [] []) (by omega) (by rw [List.getElem_set_self]; rfl); have s4 := s3.set vEnc_len i (by simpa using hi) 4 t.lv t (by omega) (by rw [List.getElem_set_self]; rfl); simp only [List.set_set] at s4; exact s4
theorem set_last {α : Type} (L : List α) (z t : α) : (L ++ [z]).set L.length t = L ++ [t] := by
  rw [List.set_append_right _ _ (Nat.le_refl _), Nat.sub_self]; rfl
theorem MSt.elemW {g cap : Nat} {t : VT} {wf : World} (h : MSt w0 qb rb vb xb k w left b bad kv lv ks L) (hgb : w0.heap.size ≤ g) (hf : lv.ownBlock = some g ∨ g = w.heap.size) (ht : Rd (MP w0.heap.size kv lv) w t)
    (hx : Blk wf xb [.int .u8 k, .int .u64 0, .string ⟨#[]⟩, kv, .slice (some ⟨g, 0, none⟩) (L.length + 1) cap]) (ho : Own w0.heap.size 31 5 vEnc wf (.slice (some ⟨g, 0, none⟩) (L.length + 1) cap) (L ++ [t])) (hu : Upd (fun i => lv.ownBlock = some i ∨ i = g ∨ i = xb) w wf) :
    MSt w0 qb rb vb xb k wf left b bad kv (.slice (some ⟨g, 0, none⟩) (L.length + 1) cap) ks (L ++ [t]) := by
  have hv := h.pr.vq; have h1 := h.lt; have h2 := h.xl
  have hrd : ∀ x, Rd (MP w0.heap.size kv lv) w x → Rd (MP w0.heap.size kv (.slice (some ⟨g, 0, none⟩) (L.length + 1) cap)) wf x := fun x hx => by
    have r := hx.weaken (Q := fun i => MP w0.heap.size kv lv i ∧ g ≠ i) (fun i hi hm => ⟨hm, fun e => by
      rcases hf with hf | hf
      · exact hm.2.2 (by rw [hf, e])
      · omega⟩)
    have r2 := r.upd hu (fun i hi e => by
      rcases e with e | e | e
      · exact hi.1.2.2 e
      · exact hi.2 e.symm
      · have := hi.1.1; omega)
    exact r2.weaken (fun i _ hi => ⟨hi.1.1, hi.1.2.1, fun e => hi.2 (by simpa [Value.ownBlock] using e)⟩)
  refine ⟨h.pr.above hu (fun i e => by rcases e with e | e | e; (have := h.lo.ge e; omega); omega; omega), hx, h.ko.upd hu (fun i hi e => ?_), ho, fun x hx => ?_, h.up.trans hu (fun i e hi => by rcases e with e | e | e; (have := h.lo.ge e; omega); omega; exact .inr (.inr e)), h.lt, h.xl⟩
  · rcases e with e | e | e
    · exact own_ne h.ko h.lo (by decide) hi e
    · subst e; rcases hf with hf | hf
      · exact own_ne h.ko h.lo (by decide) hi hf
      · have := h.ko.lt hi; omega
    · have := h.ko.ge hi; omega
  · rcases List.mem_append.1 hx with hx | hx
    · exact hrd x (h.rd x hx)
    · rw [List.mem_singleton.1 hx]; exact hrd t ht
/-- Behind an append to the values, a store of what was read, and a store of the list. -/
theorem MSt.elem {g cap : Nat} {t : VT} (h : MSt w0 qb rb vb xb k w left b bad kv lv ks L) (hO : Own w0.heap.size 31 5 vEnc w' (.slice (some ⟨g, 0, none⟩) (L.length + 1) cap) (L ++ [VT.zero])) (hg : w.grownBy w' lv.ownBlock) (hf : lv.ownBlock = some g ∨ g = w.heap.size)
    (ht : Rd (MP w0.heap.size kv lv) w t) :
    Blk w' xb [.int .u8 k, .int .u64 0, .string ⟨#[]⟩, kv, lv] ∧ Blk (set5r w' g L.length (.int .u8 t.k) (.int .u64 t.n) (.string t.s) t.kv t.lv) xb [.int .u8 k, .int .u64 0, .string ⟨#[]⟩, kv, lv] ∧
    MSt w0 qb rb vb xb k ((set5r w' g L.length (.int .u8 t.k) (.int .u64 t.n) (.string t.s) t.kv t.lv).setCell ⟨xb, 4, none⟩ (.slice (some ⟨g, 0, none⟩) (L.length + 1) cap)) left b bad kv (.slice (some ⟨g, 0, none⟩) (L.length + 1) cap) ks (L ++ [t]) := by
  have hv := h.pr.vq; have h1 := h.lt; have h2 := h.xl; have hgb : w0.heap.size ≤ g := hO.ge rfl; have hu : Upd (fun i => lv.ownBlock = some i ∨ i = g ∨ i = xb) w w' := Upd.grown hg (fun i e => .inl e); have hr := Upd.row5 w' g L.length (.int .u8 t.k) (.int .u64 t.n) (.string t.s) t.kv t.lv; have hs := Upd.set (S := fun i => i = xb) (w := set5r w' g L.length (.int .u8 t.k) (.int .u64 t.n) (.string t.s) t.kv t.lv) (p := ⟨xb, 4, none⟩) rfl (.slice (some ⟨g, 0, none⟩) (L.length + 1) cap); have hx : Blk w' xb [.int .u8 k, .int .u64 0, .string ⟨#[]⟩, kv, lv] := h.x.upd (Upd.grown (S := fun i => lv.ownBlock = some i) hg (fun i e => e)) (fun e => by have := h.lo.ge e; omega); have hx2 := hx.upd hr (fun e => by omega); have hO2 := hO.row5 L.length (by simp) t; rw [set_last] at hO2; exact ⟨hx, hx2, h.elemW hgb hf ht (hx2.set 4 _) (hO2.upd hs (fun i hi e => by have := hO2.ge hi; omega)) ((hu.trans hr (fun i e _ => .inr (.inl e))).trans hs (fun i e _ => .inr (.inr e)))⟩
/-- The same, the list stored first. -/
theorem MSt.elem2 {g cap : Nat} {t : VT} (h : MSt w0 qb rb vb xb k w left b bad kv lv ks L) (hO : Own w0.heap.size 31 5 vEnc w' (.slice (some ⟨g, 0, none⟩) (L.length + 1) cap) (L ++ [VT.zero])) (hg : w.grownBy w' lv.ownBlock) (hf : lv.ownBlock = some g ∨ g = w.heap.size)
    (ht : Rd (MP w0.heap.size kv lv) w t) :
    Own w0.heap.size 31 5 vEnc (w'.setCell ⟨xb, 4, none⟩ (.slice (some ⟨g, 0, none⟩) (L.length + 1) cap)) (.slice (some ⟨g, 0, none⟩) (L.length + 1) cap) (L ++ [VT.zero]) ∧
    MSt w0 qb rb vb xb k (set5r (w'.setCell ⟨xb, 4, none⟩ (.slice (some ⟨g, 0, none⟩) (L.length + 1) cap)) g L.length (.int .u8 t.k) (.int .u64 t.n) (.string t.s) t.kv t.lv) left b bad kv (.slice (some ⟨g, 0, none⟩) (L.length + 1) cap) ks (L ++ [t]) := by
  have hv := h.pr.vq; have h1 := h.lt; have h2 := h.xl; have hgb : w0.heap.size ≤ g := hO.ge rfl; have hu : Upd (fun i => lv.ownBlock = some i ∨ i = g ∨ i = xb) w w' := Upd.grown hg (fun i e => .inl e); have hs := Upd.set (S := fun i => i = xb) (w := w') (p := ⟨xb, 4, none⟩) rfl (.slice (some ⟨g, 0, none⟩) (L.length + 1) cap); have hr := Upd.row5 (w'.setCell ⟨xb, 4, none⟩ (.slice (some ⟨g, 0, none⟩) (L.length + 1) cap)) g L.length (.int .u8 t.k) (.int .u64 t.n) (.string t.s) t.kv t.lv; have hx : Blk w' xb [.int .u8 k, .int .u64 0, .string ⟨#[]⟩, kv, lv] := h.x.upd (Upd.grown (S := fun i => lv.ownBlock = some i) hg (fun i e => e)) (fun e => by have := h.lo.ge e; omega); have hOs := hO.upd hs (fun i hi e => by have := hO.ge hi; omega); have hO2 := hOs.row5 L.length (by simp) t; rw [set_last] at hO2; exact ⟨hOs, h.elemW hgb hf ht ((hx.set 4 _).upd hr (fun e => by omega)) hO2 ((hu.trans hs (fun i e _ => .inr (.inr e))).trans hr (fun i e _ => .inr (.inl e)))⟩
theorem MSt.start (p : PR w qb rb vb left b bad) (x : Blk w xb [.int .u8 k, .int .u64 0, .string ⟨#[]⟩, .slice none 0 0, .slice none 0 0]) (up : Upd (Three qb vb xb) w0 w) (h1 : qb < xb) (h2 : xb < w0.heap.size) : MSt w0 qb rb vb xb k w left b bad (.slice none 0 0) (.slice none 0 0) [] [] :=
  ⟨p, x, Own.nil, Own.nil, fun x hx => absurd hx (by simp), up, h1, h2⟩
end
/-- What is read, behind what was read. -/
def glue (ks : List ByteArray) (l : List V) (o : Option (List ByteArray × List V × Int × List UInt8)) : Option (List ByteArray × List V × Int × List UInt8) := o.map fun z => (ks ++ z.1, l ++ z.2.1, z.2.2.1, z.2.2.2)
theorem glue_nil (o : Option (List ByteArray × List V × Int × List UInt8)) : glue [] [] o = o := by cases o <;> rfl
section
variable {f : Int → List UInt8 → Option (V × Int × List UInt8)} {q : Nat} {left left1 : Int} {b b1 b2 : List UInt8} {ks : List ByteArray} {l : List V} {key : ByteArray} {x : V}
theorem glue_key (h1 : gT 1 255 b = some (key, b1)) (h2 : f left b1 = some (x, left1, b2)) : glue ks l (rdMany f true (q + 1) left b) = glue (ks ++ [key]) (l ++ [x]) (rdMany f true q left1 b2) := by
  conv => lhs; unfold rdMany
  rw [if_pos rfl, h1, Option.bind_some]; dsimp only; rw [h2, Option.bind_some]; dsimp only; cases rdMany f true q left1 b2 <;> simp [glue]
theorem glue_plain (h2 : f left b = some (x, left1, b2)) : glue ks l (rdMany f false (q + 1) left b) = glue ks (l ++ [x]) (rdMany f false q left1 b2) := by
  conv => lhs; unfold rdMany
  rw [if_neg (by simp), Option.bind_some]; dsimp only; rw [h2, Option.bind_some]; dsimp only; cases rdMany f false q left1 b2 <;> simp [glue]
theorem glue_end {m : Bool} : glue ks l (rdMany f m 0 left b) = some (ks, l, left, b) := by unfold rdMany glue; simp
end
def DTwo (rb xb : Nat) (k : Nat) : Prop := k = rb ∨ k = xb
theorem DrS.lt {w : World} {rb : Nat} {b : List UInt8} {bad : Bool} (h : DrS w rb b bad) : rb < w.heap.size := by
  obtain ⟨bv, h1, _⟩ := h; exact h1.lt
theorem DrS.above {S : Nat → Prop} {w w' : World} {rb : Nat} {b : List UInt8} {bad : Bool} (h : DrS w rb b bad) (hu : Upd S w w') (hS : ∀ k, S k → rb < k) : DrS w' rb b bad := by
  obtain ⟨bv, h1, h2, h3⟩ := h; exact ⟨bv, h1.upd hu (fun e => by have := hS _ e; omega), h2.upd hu (fun k hk e => by have := hS _ e; have := h3 k hk; omega), h3⟩
structure DSt (w0 : World) (rb xb : Nat) (k : Int) (w : World) (b : List UInt8) (bad : Bool) (kv lv : Value) (ks : List ByteArray) (L : List VT) : Prop where
  pr : DrS w rb b bad
  x : Blk w xb [.int .u8 k, .int .u64 0, .string ⟨#[]⟩, kv, lv]
  ko : Own w0.heap.size 9 1 strEnc w kv ks
  lo : Own w0.heap.size 31 5 vEnc w lv L
  rd : ∀ x ∈ L, Rd (MP w0.heap.size kv lv) w x
  up : Upd (DTwo rb xb) w0 w
  lt : rb < xb
  xl : xb < w0.heap.size
section
variable {w0 w w' : World} {rb xb : Nat} {k : Int} {b : List UInt8} {bad : Bool} {kv lv : Value} {ks : List ByteArray} {L : List VT}
theorem DSt.moved {S : Nat → Prop} {b' : List UInt8} {bad' : Bool} (h : DSt w0 rb xb k w b bad kv lv ks L) (p : DrS w' rb b' bad') (hu : Upd S w w') (hS : ∀ i, S i → i = rb) : DSt w0 rb xb k w' b' bad' kv lv ks L := by
  have h1 := h.lt; have h2 := h.xl; have hs : ∀ i, w0.heap.size ≤ i → ¬ S i := fun i hi e => by have := hS i e; omega
  exact ⟨p, h.x.upd hu (fun e => by have := hS _ e; omega), h.ko.upd hu (fun i hi => hs i (h.ko.ge hi)), h.lo.upd hu (fun i hi => hs i (h.lo.ge hi)), fun x hx => (h.rd x hx).upd hu (fun i hi => hs i hi.1),
    h.up.trans hu (fun i e _ => .inl (hS _ e)), h.lt, h.xl⟩
theorem DSt.pure (h : DSt w0 rb xb k w b bad kv lv ks L) (hB : Below w.heap.size w w') : DSt w0 rb xb k w' b bad kv lv ks L :=
  ⟨h.pr.pure hB, h.x.pure hB, h.ko.pure hB, h.lo.pure hB, fun x hx => (h.rd x hx).pure hB, h.up.trans (Upd.of_below (S := fun _ => False) hB) (fun _ e _ => e.elim), h.lt, h.xl⟩
theorem DSt.alloc (h : DSt w0 rb xb k w b bad kv lv ks L) (o : Obj) : DSt w0 rb xb k (w.alloc o) b bad kv lv ks L := h.pure ((Below.refl _ _).alloc (Nat.le_refl _) _)
theorem DSt.drew (h : DSt w0 rb xb k w b bad kv lv ks L) : DSt w0 rb xb k w.drew b bad kv lv ks L := h.pure (below_refl_dr w)
/-- Behind an append to the keys: the value's own block, and what stands when it is stored. -/
theorem DSt.key {key : ByteArray} {g cap : Nat} (h : DSt w0 rb xb k w b bad kv lv ks L) (hO : Own w0.heap.size 9 1 strEnc w' (.slice (some ⟨g, 0, none⟩) (ks.length + 1) cap) (ks ++ [key])) (hg : w.grownBy w' kv.ownBlock) (hf : kv.ownBlock = some g ∨ g = w.heap.size) :
    Blk w' xb [.int .u8 k, .int .u64 0, .string ⟨#[]⟩, kv, lv] ∧ DSt w0 rb xb k (w'.setCell ⟨xb, 3, none⟩ (.slice (some ⟨g, 0, none⟩) (ks.length + 1) cap)) b bad (.slice (some ⟨g, 0, none⟩) (ks.length + 1) cap) lv (ks ++ [key]) L := by
  have h1 := h.lt; have h2 := h.xl; have hu : Upd (fun i => kv.ownBlock = some i) w w' := Upd.grown hg (fun i e => e); have hs := Upd.set (S := fun i => i = xb) (w := w') (p := ⟨xb, 3, none⟩) rfl (.slice (some ⟨g, 0, none⟩) (ks.length + 1) cap); have hx := h.x.upd hu (fun e => by have := h.ko.ge e; omega)
  refine ⟨hx, (h.pr.above hu (fun i e => by have := h.ko.ge e; omega)).above hs (fun i e => by omega), hx.set 3 _, hO.upd hs (fun i hi e => by have := hO.ge hi; omega),
    (h.lo.upd hu (fun i hi e => own_ne h.lo h.ko (by decide) hi e)).upd hs (fun i hi e => by have := h.lo.ge hi; omega), fun x hx => ?_, ?_, h.lt, h.xl⟩
  · have r := (h.rd x hx).weaken (Q := fun i => MP w0.heap.size kv lv i ∧ g ≠ i) (fun i hi hm => ⟨hm, fun e => by
      rcases hf with hf | hf
      · exact hm.2.1 (by rw [hf, e])
      · omega⟩)
    have r2 := (r.upd hu (fun i hi e => hi.1.2.1 e)).upd hs (fun i hi e => by have := hi.1.1; omega); exact r2.weaken (fun i _ hi => ⟨hi.1.1, fun e => hi.2 (by simpa [Value.ownBlock] using e), hi.1.2.2⟩)
  · exact (h.up.trans hu (fun i e hi => by have := h.ko.ge e; omega)).trans hs (fun i e hi => .inr e)
theorem DSt.elemW {g cap : Nat} {t : VT} {wf : World} (h : DSt w0 rb xb k w b bad kv lv ks L) (hgb : w0.heap.size ≤ g) (hf : lv.ownBlock = some g ∨ g = w.heap.size) (ht : Rd (MP w0.heap.size kv lv) w t)
    (hx : Blk wf xb [.int .u8 k, .int .u64 0, .string ⟨#[]⟩, kv, .slice (some ⟨g, 0, none⟩) (L.length + 1) cap]) (ho : Own w0.heap.size 31 5 vEnc wf (.slice (some ⟨g, 0, none⟩) (L.length + 1) cap) (L ++ [t])) (hu : Upd (fun i => lv.ownBlock = some i ∨ i = g ∨ i = xb) w wf) :
    DSt w0 rb xb k wf b bad kv (.slice (some ⟨g, 0, none⟩) (L.length + 1) cap) ks (L ++ [t]) := by
  have h1 := h.lt; have h2 := h.xl
  have hrd : ∀ x, Rd (MP w0.heap.size kv lv) w x → Rd (MP w0.heap.size kv (.slice (some ⟨g, 0, none⟩) (L.length + 1) cap)) wf x := fun x hx => by
    have r := hx.weaken (Q := fun i => MP w0.heap.size kv lv i ∧ g ≠ i) (fun i hi hm => ⟨hm, fun e => by
      rcases hf with hf | hf
      · exact hm.2.2 (by rw [hf, e])
      · omega⟩)
    have r2 := r.upd hu (fun i hi e => by
      rcases e with e | e | e
      · exact hi.1.2.2 e
      · exact hi.2 e.symm
      · have := hi.1.1; omega)
    exact r2.weaken (fun i _ hi => ⟨hi.1.1, hi.1.2.1, fun e => hi.2 (by simpa [Value.ownBlock] using e)⟩)
  refine ⟨h.pr.above hu (fun i e => by rcases e with e | e | e; (have := h.lo.ge e; omega); omega; omega), hx, h.ko.upd hu (fun i hi e => ?_), ho, fun x hx => ?_, h.up.trans hu (fun i e hi => by rcases e with e | e | e; (have := h.lo.ge e; omega); omega; exact .inr e), h.lt, h.xl⟩
  · rcases e with e | e | e
    · exact own_ne h.ko h.lo (by decide) hi e
    · subst e; rcases hf with hf | hf
      · exact own_ne h.ko h.lo (by decide) hi hf
      · have := h.ko.lt hi; omega
    · have := h.ko.ge hi; omega
  · rcases List.mem_append.1 hx with hx | hx
    · exact hrd x (h.rd x hx)
    · rw [List.mem_singleton.1 hx]; exact hrd t ht
/-- Behind an append to the values, a store of what was read, and a store of the list. -/
theorem DSt.elem {g cap : Nat} {t : VT} (h : DSt w0 rb xb k w b bad kv lv ks L) (hO : Own w0.heap.size 31 5 vEnc w' (.slice (some ⟨g, 0, none⟩) (L.length + 1) cap) (L ++ [VT.zero])) (hg : w.grownBy w' lv.ownBlock) (hf : lv.ownBlock = some g ∨ g = w.heap.size)
    (ht : Rd (MP w0.heap.size kv lv) w t) :
    Blk w' xb [.int .u8 k, .int .u64 0, .string ⟨#[]⟩, kv, lv] ∧ Blk (set5r w' g L.length (.int .u8 t.k) (.int .u64 t.n) (.string t.s) t.kv t.lv) xb [.int .u8 k, .int .u64 0, .string ⟨#[]⟩, kv, lv] ∧
    DSt w0 rb xb k ((set5r w' g L.length (.int .u8 t.k) (.int .u64 t.n) (.string t.s) t.kv t.lv).setCell ⟨xb, 4, none⟩ (.slice (some ⟨g, 0, none⟩) (L.length + 1) cap)) b bad kv (.slice (some ⟨g, 0, none⟩) (L.length + 1) cap) ks (L ++ [t]) := by
  have h1 := h.lt; have h2 := h.xl; have hgb : w0.heap.size ≤ g := hO.ge rfl; have hu : Upd (fun i => lv.ownBlock = some i ∨ i = g ∨ i = xb) w w' := Upd.grown hg (fun i e => .inl e); have hr := Upd.row5 w' g L.length (.int .u8 t.k) (.int .u64 t.n) (.string t.s) t.kv t.lv; have hs := Upd.set (S := fun i => i = xb) (w := set5r w' g L.length (.int .u8 t.k) (.int .u64 t.n) (.string t.s) t.kv t.lv) (p := ⟨xb, 4, none⟩) rfl (.slice (some ⟨g, 0, none⟩) (L.length + 1) cap); have hx : Blk w' xb [.int .u8 k, .int .u64 0, .string ⟨#[]⟩, kv, lv] := h.x.upd (Upd.grown (S := fun i => lv.ownBlock = some i) hg (fun i e => e)) (fun e => by have := h.lo.ge e; omega); have hx2 := hx.upd hr (fun e => by omega); have hO2 := hO.row5 L.length (by simp) t; rw [set_last] at hO2; exact ⟨hx, hx2, h.elemW hgb hf ht (hx2.set 4 _) (hO2.upd hs (fun i hi e => by have := hO2.ge hi; omega)) ((hu.trans hr (fun i e _ => .inr (.inl e))).trans hs (fun i e _ => .inr (.inr e)))⟩
/-- The same, the list stored first. -/
theorem DSt.elem2 {g cap : Nat} {t : VT} (h : DSt w0 rb xb k w b bad kv lv ks L) (hO : Own w0.heap.size 31 5 vEnc w' (.slice (some ⟨g, 0, none⟩) (L.length + 1) cap) (L ++ [VT.zero])) (hg : w.grownBy w' lv.ownBlock) (hf : lv.ownBlock = some g ∨ g = w.heap.size)
    (ht : Rd (MP w0.heap.size kv lv) w t) :
    Own w0.heap.size 31 5 vEnc (w'.setCell ⟨xb, 4, none⟩ (.slice (some ⟨g, 0, none⟩) (L.length + 1) cap)) (.slice (some ⟨g, 0, none⟩) (L.length + 1) cap) (L ++ [VT.zero]) ∧
    DSt w0 rb xb k (set5r (w'.setCell ⟨xb, 4, none⟩ (.slice (some ⟨g, 0, none⟩) (L.length + 1) cap)) g L.length (.int .u8 t.k) (.int .u64 t.n) (.string t.s) t.kv t.lv) b bad kv (.slice (some ⟨g, 0, none⟩) (L.length + 1) cap) ks (L ++ [t]) := by
  have h1 := h.lt; have h2 := h.xl; have hgb : w0.heap.size ≤ g := hO.ge rfl; have hu : Upd (fun i => lv.ownBlock = some i ∨ i = g ∨ i = xb) w w' := Upd.grown hg (fun i e => .inl e); have hs := Upd.set (S := fun i => i = xb) (w := w') (p := ⟨xb, 4, none⟩) rfl (.slice (some ⟨g, 0, none⟩) (L.length + 1) cap); have hr := Upd.row5 (w'.setCell ⟨xb, 4, none⟩ (.slice (some ⟨g, 0, none⟩) (L.length + 1) cap)) g L.length (.int .u8 t.k) (.int .u64 t.n) (.string t.s) t.kv t.lv; have hx : Blk w' xb [.int .u8 k, .int .u64 0, .string ⟨#[]⟩, kv, lv] := h.x.upd (Upd.grown (S := fun i => lv.ownBlock = some i) hg (fun i e => e)) (fun e => by have := h.lo.ge e; omega); have hOs := hO.upd hs (fun i hi e => by have := hO.ge hi; omega); have hO2 := hOs.row5 L.length (by simp) t; rw [set_last] at hO2; exact ⟨hOs, h.elemW hgb hf ht ((hx.set 4 _).upd hr (fun e => by omega)) hO2 ((hu.trans hs (fun i e _ => .inr (.inr e))).trans hr (fun i e _ => .inr (.inl e)))⟩
theorem DSt.start (p : DrS w rb b bad) (x : Blk w xb [.int .u8 k, .int .u64 0, .string ⟨#[]⟩, .slice none 0 0, .slice none 0 0]) (up : Upd (DTwo rb xb) w0 w) (h1 : rb < xb) (h2 : xb < w0.heap.size) : DSt w0 rb xb k w b bad (.slice none 0 0) (.slice none 0 0) [] [] :=
  ⟨p, x, Own.nil, Own.nil, fun x hx => absurd hx (by simp), up, h1, h2⟩
end
theorem DSt.tree {w0 w w' : World} {rb xb : Nat} {k : Int} {b : List UInt8} {bad : Bool} {kv lv : Value} {ks : List ByteArray} {L : List VT} {t : VT} (h : DSt w0 rb xb k w b bad kv lv ks L) (ht : Rd (fun i => w.heap.size ≤ i) w' t) : Rd (MP w0.heap.size kv lv) w' t :=
  ht.weaken (fun i _ hi => ⟨Nat.le_trans h.up.size hi, fun e => by have := h.ko.lt e; omega, fun e => by have := h.lo.lt e; omega⟩)
theorem DSt.app {w0 w w' : World} {rb xb g cap : Nat} {k : Int} {b : List UInt8} {bad : Bool} {kv lv : Value} {ks : List ByteArray} {L : List VT} {t : VT} (h : DSt w0 rb xb k w b bad kv lv ks L) (hO : Own w0.heap.size 31 5 vEnc w' (.slice (some ⟨g, 0, none⟩) (L.length + 1) cap) (L ++ [t])) (hg : w.grownBy w' lv.ownBlock) (hf : lv.ownBlock = some g ∨ g = w.heap.size)
    (ht : Rd (MP w0.heap.size kv lv) w t) :
    Blk w' xb [.int .u8 k, .int .u64 0, .string ⟨#[]⟩, kv, lv] ∧ DSt w0 rb xb k (w'.setCell ⟨xb, 4, none⟩ (.slice (some ⟨g, 0, none⟩) (L.length + 1) cap)) b bad kv (.slice (some ⟨g, 0, none⟩) (L.length + 1) cap) ks (L ++ [t]) := by
  have h1 := h.lt; have h2 := h.xl; have hgb : w0.heap.size ≤ g := hO.ge rfl; have hu : Upd (fun i => lv.ownBlock = some i ∨ i = g ∨ i = xb) w w' := Upd.grown hg (fun i e => .inl e); have hs := Upd.set (S := fun i => i = xb) (w := w') (p := ⟨xb, 4, none⟩) rfl (.slice (some ⟨g, 0, none⟩) (L.length + 1) cap); have hx : Blk w' xb [.int .u8 k, .int .u64 0, .string ⟨#[]⟩, kv, lv] := h.x.upd (Upd.grown (S := fun i => lv.ownBlock = some i) hg (fun i e => e)) (fun e => by have := h.lo.ge e; omega); exact ⟨hx, h.elemW hgb hf ht (hx.set 4 _) (hO.upd hs (fun i hi e => by have := hO.ge hi; omega)) (hu.trans hs (fun i e _ => .inr (.inr e)))⟩
/-! ### the reader's calls, as the document's reader of values makes them -/
theorem DrS.fresh5 {w : World} {rb B : Nat} {b : List UInt8} {bad : Bool} (h : DrS w rb b bad) (hB : rb < B) (v0 v1 v2 v3 v4 : Value) : DrS (set5 w B v0 v1 v2 v3 v4) rb b bad := h.above (Upd.at5 w B v0 v1 v2 v3 v4) (fun k e => by omega)
theorem MSt.tree {w0 w w' : World} {qb rb vb xb : Nat} {k left : Int} {b : List UInt8} {bad : Bool} {kv lv : Value} {ks : List ByteArray} {L : List VT} {t : VT} (h : MSt w0 qb rb vb xb k w left b bad kv lv ks L) (ht : Rd (fun i => w.heap.size ≤ i) w' t) : Rd (MP w0.heap.size kv lv) w' t :=
  ht.weaken (fun i _ hi => ⟨Nat.le_trans h.up.size hi, fun e => by have := h.ko.lt e; omega, fun e => by have := h.lo.lt e; omega⟩)
/-- Behind the keys' append. -/
def AfterKey (w0 : World) (qb rb vb xb : Nat) (k left : Int) (b : List UInt8) (bad : Bool) (lv : Value) (ks : List ByteArray) (L : List VT) (w : World) : Prop := ∃ kv : Value, MSt w0 qb rb vb xb k w left b bad kv lv ks L
end Go.Proofs.YtlonokcaddpniaaGreatDoor
