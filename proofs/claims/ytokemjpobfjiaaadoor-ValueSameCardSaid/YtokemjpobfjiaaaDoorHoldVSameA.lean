/- The statement ValueSameCardSaid: whatever its arguments are, the law ValueSame returns true, and leaves its arguments as they were. Conditions: none beyond the statement's own. (Texts joined; the heads of the others stand below.) -/
import Derived.Test.YtokemjpobfjiaaaDoorKP
import Derived.Test.YtokemjpobfjiaaaDoorKL
import Derived.Test.YtokemjpobfjiaaaDoorCards
import Derived.Test.YtokemjpobfjiaaaDoorTie
import Derived.ProofKit
import Derived.OpenShut
import Derived.Deep.DeepHandedRow
import Derived.Lay
import Derived.SevenTiedAt
import Derived.ChangeMaps5

/- Values: own, the program's: a value of its own memory that is the same; slices.Clone of texts and of values. Conditions: it has at most so many keys and values. Written by gen_vown.py. -/
namespace Go.Proofs.YtokemjpobfjiaaaDoor
set_option linter.unusedSimpArgs false
set_option linter.unusedVariables false
open Go.RowKit
/-- append of the rows of a slice (nil or not) onto a slice of the call's own. -/
theorem wpList_appM {α : Type} {enc : α → List Value} {m bytes base : Nat} {P : Program} {w : World} {ops : Array Oper} {rest : List Oper} {o : Oper} {a : Act} {Q : Exit → Act → World → Prop}
    (hgd : o.guard = none) (s x : Operand) (t e : TypeId) (ho : o.op = .call { callee := .builtin .append, args := #[s, x], argTypes := #[t, t] })
    (hE : ElemT P t e m bytes) (hm : ∀ x, (enc x).length = m)
    (v : Value) (L : List α) (hs : a.eval s = v) (hown : Own base e m enc w v L)
    (y : Value) (L2 : List α) (hone : ∀ x ∈ L2, ∀ u ∈ enc x, u.oneCell' = true) (hx : a.eval x = y) (hsrc : Slc enc m w y L2)
    (hlen : (L.length + L2.length) ≤ maxLen) (hbytes : (L.length + L2.length) * bytes ≤ 140737488355328) (hbase : base ≤ w.heap.size)
    (h : ∀ v' w', Own base e m enc w' v' (L ++ L2) → w.grownBy w' v.ownBlock → (v'.ownBlock = v.ownBlock ∨ v'.ownBlock = some w.heap.size) →
      (v' = .slice none 0 0 ∨ ∃ g cap, v' = .slice (some ⟨g, 0, none⟩) (L.length + L2.length) cap) → wpList P ops Q rest (a.put o.dst v') w') :
    wpList P ops Q (o :: rest) a w := by
  obtain ⟨i, z, hi, hz, hsize, hby, hzs⟩ := hE.ex
  have hL2 : (L2.flatMap enc).length = L2.length * m := flat_len hm L2
  have key : ∀ v' w', w'.ownsRow base e m v' (L.length + L2.length) (L.flatMap enc ++ L2.flatMap enc) → w.grownBy w' v.ownBlock → (v'.ownBlock = v.ownBlock ∨ v'.ownBlock = some w.heap.size) → wpList P ops Q rest (a.put o.dst v') w' := by
    intro v' w' h1 h2 h4
    have h1' : Own base e m enc w' v' (L ++ L2) := by unfold Own; rw [List.length_append, List.flatMap_append]; exact h1
    refine h v' w' h1' h2 h4 ?_
    rcases h1'.cases with ⟨hv, _⟩ | ⟨g, cap, hv, _⟩
    · exact .inl hv
    · exact .inr ⟨g, cap, by simpa using hv⟩
  have nilcase : y = .slice none 0 0 → L2 = [] → wpList P ops Q (o :: rest) a w := by
    rintro rfl rfl
    refine wpList_plain hgd fun K hK => ?_
    have hr := run_append_owned_none (P := P) w base t o.type e i m hE.ht hi v L.length (L.flatMap enc) hown
    unfold Oper.wp execOp
    simp only [ho, resolve, invoke, builtin, Sem.run_bind, Sem.run_pure, Result.andThen_ok, List.map_toArray, List.map_cons, List.map_nil, hs, hx, hr]
    exact hK _ _ (key v w (by simpa [Own] using hown) (World.grownBy.refl _ _) (.inl rfl))
  rcases hsrc with ⟨ya, cap, rfl, hcap, rfl⟩ | ⟨g, off, cap, rfl, hc1, hc2, hcell⟩
  · cases ya with
    | none =>
      by_cases hc0 : cap = 0
      · subst hc0; exact nilcase rfl rfl
      · refine wpList_plain hgd fun K hK => ?_
        have hr := run_append_owned_none' (P := P) w base t o.type e i m cap hE.ht hi v L.length (L.flatMap enc) hown
        unfold Oper.wp execOp
        simp only [ho, resolve, invoke, builtin, Sem.run_bind, Sem.run_pure, Result.andThen_ok, List.map_toArray, List.map_cons, List.map_nil, hs, hx, hr]
        exact hK _ _ (key v w (by simpa [Own] using hown) (World.grownBy.refl _ _) (.inl rfl))
    | some ya =>
      refine wpList_append_own_at w hgd s x t ho base e i z m bytes hE.ht hi hz hsize hby hzs hE.pos v L.length (L.flatMap enc) hs hown ya 0 cap [] hx (by simp) (by simp) (by simp) (by simpa using hlen) (by simpa using hbytes) hbase ?_
      intro v' w' h1 h2 _ h4
      exact key v' w' (by simpa using h1) h2 h4
  · refine wpList_append_own_at w hgd s x t ho base e i z m bytes hE.ht hi hz hsize hby hzs hE.pos v L.length (L.flatMap enc) hs hown ⟨g, off, none⟩ L2.length cap (L2.flatMap enc) hx hL2 ?_ ?_ hlen hbytes hbase ?_
    · intro j u hu
      have hj : j < L2.length * m := by rw [← hL2]; exact (List.getElem?_eq_some_iff.1 hu).1
      have hi' : j / m < L2.length := Nat.div_lt_of_lt_mul (by rw [Nat.mul_comm]; exact hj)
      have hjm : j / m * m + j % m = j := by rw [Nat.mul_comm]; exact Nat.div_add_mod j m
      have hlt : j % m < (enc L2[j / m]).length := by rw [hm]; exact Nat.mod_lt _ hE.pos
      have h1 := flat_get hm L2 (j / m) hi' (j % m) (enc L2[j / m])[j % m] (List.getElem?_eq_getElem hlt)
      rw [hjm, hu] at h1
      have h2 := hcell (j / m) hi' (j % m) u (by rw [List.getElem?_eq_getElem hlt]; exact h1.symm)
      have e1 : (⟨g, off, none⟩ : Addr).add j = ⟨g, off + j / m * m + j % m, none⟩ := by
        rw [Nat.add_assoc, hjm]; unfold Addr.add; split <;> simp_all
      rw [e1]; exact h2
    · intro u hu
      obtain ⟨y, hmem, hy⟩ := List.mem_flatMap.1 hu
      exact hone y hmem u hy
    · intro v' w' h1 h2 _ h4
      exact key v' w' h1 h2 h4


theorem vEnc_one {P : Nat → Prop} {w : World} {t : VT} (h : Rd P w t) : ∀ u ∈ vEnc t, u.oneCell' = true := by
  obtain ⟨k, n, s, ka, kc, la, lc, ks, l, rfl, -⟩ := h.open
  simp [vEnc, VT.k, VT.n, VT.s, VT.kv, VT.lv, Value.oneCell']
theorem own_row {base : Nat} {w : World} {g n c : Nat} {L : List VT} (h : Own base 27 5 vEnc w (.slice (some ⟨g, 0, none⟩) n c) L) (i : Nat) (hi : i < L.length) (t : VT) :
    Own base 27 5 vEnc (((((w.setCell ⟨g, i * 5, none⟩ (.int .u8 t.k)).setCell ⟨g, i * 5 + 1, none⟩ (.int .u64 t.n)).setCell ⟨g, i * 5 + 2, none⟩ (.string t.s)).setCell ⟨g, i * 5 + 3, none⟩ t.kv).setCell ⟨g, i * 5 + 4, none⟩ t.lv) (.slice (some ⟨g, 0, none⟩) n c) (L.set i t) := by
  have h0 := h.set vEnc_len i hi 0 (.int .u8 t.k) (.mk t.k L[i].n L[i].s L[i].kv L[i].lv L[i].ks L[i].l) (by omega) rfl
  have h1 := h0.set vEnc_len i (by simpa using hi) 1 (.int .u64 t.n) (.mk t.k t.n L[i].s L[i].kv L[i].lv L[i].ks L[i].l) (by omega) (by rw [List.getElem_set_self]; rfl)
  have h2 := h1.set vEnc_len i (by simpa using hi) 2 (.string t.s) (.mk t.k t.n t.s L[i].kv L[i].lv L[i].ks L[i].l) (by omega) (by rw [List.getElem_set_self]; rfl)
  have h3 := h2.set vEnc_len i (by simpa using hi) 3 t.kv (.mk t.k t.n t.s t.kv L[i].lv L[i].ks L[i].l) (by omega) (by rw [List.getElem_set_self]; rfl)
  have h4 := h3.set vEnc_len i (by simpa using hi) 4 t.lv t (by omega) (by rw [List.getElem_set_self]; rfl)
  simpa only [List.set_set, Nat.add_zero] using h4
theorem upd_row (w : World) (g b : Nat) (v0 v1 v2 v3 v4 : Value) : Upd (fun i => i = g) w (((((w.setCell ⟨g, b, none⟩ v0).setCell ⟨g, b + 1, none⟩ v1).setCell ⟨g, b + 2, none⟩ v2).setCell ⟨g, b + 3, none⟩ v3).setCell ⟨g, b + 4, none⟩ v4) := by
  have s := fun (u : World) (i : Nat) (v : Value) => Upd.set (S := fun k => k = g) (w := u) (p := ⟨g, i, none⟩) rfl v
  exact ((((s _ _ _).trans (s _ _ _) (fun _ h _ => h)).trans (s _ _ _) (fun _ h _ => h)).trans (s _ _ _) (fun _ h _ => h)).trans (s _ _ _) (fun _ h _ => h)
theorem cstr_eql_nil (w : World) (a : Option Addr) (n c : Nat) : (binOp .eql 24 (.slice a n c) (.slice none 0 0)).run Tryd.prog w = .ok (.bool a.isNone) w := Lib.run_eql_slice_nil w _ _ a n c 0 0 Tryd.underlying24
set_option maxHeartbeats 800000 in
theorem cstr_clone (w : World) (v : Value) (L : List ByteArray) (h : Slc strEnc 1 w v L) (hL : L.length ≤ 1000000) :
    Calls Tryd.prog 58 #[v] w fun e w' => ∃ r, e = .returned r ∧ Own w.heap.size 9 1 strEnc w' r L ∧ Below w.heap.size w w' := by
  have qS := cstr_eql_nil
  obtain ⟨a, cap, rfl, hm⟩ := h.len
  cases a with
  | none =>
    have hn : L = [] := by
      rcases h with ⟨_, _, _, _, h0⟩ | ⟨g, off, cap', hv, _⟩
      · exact h0
      · simp at hv
    subst hn
    go_enter Tryd.func58, Tryd.ntmps58
    go_wp2
    go_ret
    exact ⟨_, rfl, Own.nil, Below.refl _ _⟩
  | some ad =>
    go_enter Tryd.func58, Tryd.ntmps58
    go_wp2_with (at_builtin; refine wpList_app rfl _ _ 24 9 rfl elem_strs strEnc_len strEnc_one _ ([] : List ByteArray) rfl (Own.made0 w 9 (Nat.le_refl _)) _ L rfl (h.pure ((Below.refl _ _).alloc (Nat.le_refl _) _)) (by unfold maxLen; simp <;> omega) (by simp <;> omega) (by simp) ?_; intro v' w2 hown hgr hfr hshape)
    go_ret
    refine ⟨_, rfl, by simpa using hown, ?_⟩
    exact ((Below.refl w.heap.size w).alloc (Nat.le_refl _) _).grown hgr (by simp) (fun j e => by have e : some w.heap.size = some j := e; injection e with e; omega)
theorem cval_eql_nil (w : World) (a : Option Addr) (n c : Nat) : (binOp .eql 25 (.slice a n c) (.slice none 0 0)).run Tryd.prog w = .ok (.bool a.isNone) w := Lib.run_eql_slice_nil w _ _ a n c 0 0 Tryd.underlying25
set_option maxHeartbeats 800000 in
theorem cval_clone (w : World) (v : Value) (L : List VT) (h : Slc vEnc 5 w v L) (hL : L.length ≤ 1000000) (hone : ∀ x ∈ L, ∀ u ∈ vEnc x, u.oneCell' = true) :
    Calls Tryd.prog 59 #[v] w fun e w' => ∃ r, e = .returned r ∧ Own w.heap.size 27 5 vEnc w' r L ∧ Below w.heap.size w w' := by
  have qS := cval_eql_nil
  obtain ⟨a, cap, rfl, hm⟩ := h.len
  cases a with
  | none =>
    have hn : L = [] := by
      rcases h with ⟨_, _, _, _, h0⟩ | ⟨g, off, cap', hv, _⟩
      · exact h0
      · simp at hv
    subst hn
    go_enter Tryd.func59, Tryd.ntmps59
    go_wp2
    go_ret
    exact ⟨_, rfl, Own.nil, Below.refl _ _⟩
  | some ad =>
    go_enter Tryd.func59, Tryd.ntmps59
    go_wp2_with (at_builtin; refine wpList_appM rfl _ _ 25 27 rfl elem_val vEnc_len _ ([] : List VT) rfl (Own.made0 w 27 (Nat.le_refl _)) _ L hone rfl (h.pure ((Below.refl _ _).alloc (Nat.le_refl _) _)) (by unfold maxLen; simp <;> omega) (by simp <;> omega) (by simp) ?_; intro v' w2 hown hgr hfr hshape)
    go_ret
    refine ⟨_, rfl, by simpa using hown, ?_⟩
    exact ((Below.refl w.heap.size w).alloc (Nat.le_refl _) _).grown hgr (by simp) (fun j e => by have e : some w.heap.size = some j := e; injection e with e; omega)
/-- What stands while own goes over the list: the value's block X, its keys and values of its own; ahead of k they are done. -/
structure OwSt (w0 : World) (X : Nat) (B k : Nat) (tk n : Int) (s : ByteArray) (w : World) (kv lv : Value) (ks : List ByteArray) (l L : List VT) : Prop where
  x : Blk w X [.int .u8 tk, .int .u64 n, .string s, kv, lv]
  ko : Own w0.heap.size 9 1 strEnc w kv ks
  lo : Own w0.heap.size 27 5 vEnc w lv L
  len : L.length = l.length
  old : ∀ j, (h : j < l.length) → (h' : j < L.length) → k ≤ j → L[j] = l[j]
  new : ∀ j, (h : j < l.length) → (h' : j < L.length) → j < k → L[j].v = l[j].v ∧ Rd (MP w0.heap.size kv lv) w L[j]
  up : Upd (Only X) w0 w
  xl : X < w0.heap.size
section
variable {w0 w w' : World} {X B k : Nat} {tk n : Int} {s : ByteArray} {kv lv : Value} {ks : List ByteArray} {l L : List VT}
theorem OwSt.pure (h : OwSt w0 X B k tk n s w kv lv ks l L) (hB : Below w.heap.size w w') : OwSt w0 X B k tk n s w' kv lv ks l L :=
  ⟨h.x.pure hB, h.ko.pure hB, h.lo.pure hB, h.len, h.old, fun j hj hj' hk => ⟨(h.new j hj hj' hk).1, (h.new j hj hj' hk).2.pure hB⟩, h.up.trans (Upd.of_below (S := fun _ => False) hB) (fun _ e _ => e.elim), h.xl⟩
theorem OwSt.row {g c : Nat} {t : VT} {N : Nat} (h : OwSt w0 X B k tk n s w kv (.slice (some ⟨g, 0, none⟩) N c) ks l L) (hk : k < l.length) (ht : Rd (MP w0.heap.size kv (.slice (some ⟨g, 0, none⟩) N c)) w t) (hv : t.v = l[k].v) :
    OwSt w0 X B (k + 1) tk n s (((((w.setCell ⟨g, k * 5, none⟩ (.int .u8 t.k)).setCell ⟨g, k * 5 + 1, none⟩ (.int .u64 t.n)).setCell ⟨g, k * 5 + 2, none⟩ (.string t.s)).setCell ⟨g, k * 5 + 3, none⟩ t.kv).setCell ⟨g, k * 5 + 4, none⟩ t.lv) kv (.slice (some ⟨g, 0, none⟩) N c) ks l (L.set k t) := by
  have hu := upd_row w g (k * 5) (.int .u8 t.k) (.int .u64 t.n) (.string t.s) t.kv t.lv
  have hg : w0.heap.size ≤ g := h.lo.ge rfl
  have hgw : g < w.heap.size := h.lo.lt rfl
  have hx := h.xl
  have hkL : k < L.length := by rw [h.len]; exact hk
  have hrd : ∀ x, Rd (MP w0.heap.size kv (.slice (some ⟨g, 0, none⟩) N c)) w x → Rd (MP w0.heap.size kv (.slice (some ⟨g, 0, none⟩) N c)) (((((w.setCell ⟨g, k * 5, none⟩ (.int .u8 t.k)).setCell ⟨g, k * 5 + 1, none⟩ (.int .u64 t.n)).setCell ⟨g, k * 5 + 2, none⟩ (.string t.s)).setCell ⟨g, k * 5 + 3, none⟩ t.kv).setCell ⟨g, k * 5 + 4, none⟩ t.lv) x :=
    fun x hx => hx.upd hu (fun i hi e => hi.2.2 (by rw [e]; rfl))
  refine ⟨h.x.upd hu (fun e => by omega), h.ko.upd hu (fun i hi e => own_ne h.ko h.lo (by decide) hi (by rw [e]; rfl)), own_row h.lo k hkL t, by rw [List.length_set]; exact h.len, fun j hj hj' hkj => ?_, fun j hj hj' hjk => ?_, h.up.trans hu (fun i e hi => by omega), h.xl⟩
  · rw [List.getElem_set_ne (by omega)]; exact h.old j hj (by simpa using hj') (by omega)
  · rcases Nat.lt_or_ge j k with h1 | h1
    · rw [List.getElem_set_ne (by omega)]
      have h2 := h.new j hj (by simpa using hj') h1
      exact ⟨h2.1, hrd _ h2.2⟩
    · obtain rfl : j = k := by omega
      rw [List.getElem_set_self]; exact ⟨hv, hrd _ ht⟩
theorem OwSt.tree {t : VT} (h : OwSt w0 X B k tk n s w kv lv ks l L) (ht : Rd (fun i => w.heap.size ≤ i) w' t) : Rd (MP w0.heap.size kv lv) w' t :=
  ht.weaken (fun i _ hi => ⟨Nat.le_trans h.up.size hi, fun e => by have := h.ko.lt e; omega, fun e => by have := h.lo.lt e; omega⟩)
theorem OwSt.whole {S : Nat → Prop} (h : OwSt w0 X B l.length tk n s w kv lv ks l L) (hu : Upd S w w') (hS : ∀ i, S i → i < w0.heap.size) (hn0 : 0 ≤ n) (hn1 : n < 18446744073709551616) (h0 : 0 ≤ tk) (h1 : tk < 256) : Rd (fun i => w0.heap.size ≤ i) w' (.mk tk n s kv lv ks L) :=
  .mk ((h.ko.upd hu (fun i hi e => by have h2 := h.ko.ge hi; have h3 := hS i e; omega)).slc strEnc_len) (fun _ i hi => h.ko.ge hi) ((h.lo.upd hu (fun i hi e => by have h2 := h.lo.ge hi; have h3 := hS i e; omega)).slc vEnc_len) (fun _ i hi => h.lo.ge hi)
    (fun x hx => by
      obtain ⟨j, hj, rfl⟩ := List.getElem_of_mem (show x ∈ L from hx)
      have hj' : j < l.length := by rw [← h.len]; exact hj
      exact ((h.new j hj' hj hj').2.upd hu (fun i hi e => by have h2 := hi.1; have h3 := hS i e; omega)).weaken (fun i _ hi => hi.1)) hn0 hn1 h0 h1
theorem OwSt.same (h : OwSt w0 X B l.length tk n s w kv lv ks l L) : L.map VT.v = l.map VT.v := by
  refine List.ext_getElem (by simp [h.len]) (fun j h1 h2 => ?_)
  rw [List.getElem_map, List.getElem_map]
  exact (h.new j (by simpa using h2) (by simpa using h1) (by simpa using h2)).1
end
set_option maxRecDepth 100000 in
set_option maxHeartbeats 12800000 in
theorem pown_any (t : VT) : ∀ (P : Nat → Prop) (w : World), Rd P w t → V.Fit t.v → Calls Tryd.prog 40 #[t.arg] w fun e w' => ∃ t' : VT, e = .returned t'.arg ∧ t'.v = t.v ∧ Rd (fun i => w.heap.size ≤ i) w' t' ∧ Below w.heap.size w w' ∧ Own w.heap.size 27 5 vEnc w' t'.lv t'.l := by
  induction t using VT.ind with
  | h t ih =>
    intro P w hR hfit
    have hR0 := hR.here
    have hn0 := hR.n0; have hn1 := hR.n1; have hk0 := hR.k0; have hk1 := hR.k1
    obtain ⟨tk, tn, ts, tka, tkc, tla, tlc, tks, tl, rfl, hK, hL, hmk, hml⟩ := hR.open
    have hnk := Lib.hid (show 0 ≤ tn ∧ tn < 18446744073709551616 ∧ 0 ≤ tk ∧ tk < 256 from ⟨hn0, hn1, hk0, hk1⟩)
    rw [VT.arg_mk]
    have ih' : ∀ x ∈ tl, ∀ (P : Nat → Prop) (w : World), Rd P w x → V.Fit x.v → Calls Tryd.prog 40 #[x.arg] w fun e w' => ∃ t' : VT, e = .returned t'.arg ∧ t'.v = x.v ∧ Rd (fun i => w.heap.size ≤ i) w' t' ∧ Below w.heap.size w w' ∧ Own w.heap.size 27 5 vEnc w' t'.lv t'.l := ih
    have ihh := Lib.hid ih'
    rw [VT.v_eq] at hfit
    have hf3 : tks.length ≤ 1000000 ∧ tl.length ≤ 1000000 ∧ ∀ x ∈ tl, V.Fit x.v := by
      cases hfit with
      | mk h1 h2 h3 => exact ⟨h1, by rw [List.length_map] at h2; exact h2, fun x hx => h3 _ (List.mem_map.2 ⟨x, hx, rfl⟩)⟩
    have hfh := Lib.hid hf3
    have hRh := Lib.hid hR0
    have hone := Lib.hid (show ∀ x ∈ tl, ∀ u ∈ vEnc x, u.oneCell' = true from fun x hx => vEnc_one (hR.sub x hx))
    clear ih ih' hR hR0 hfit hf3 hn0 hn1 hk0 hk1 hmk hml
    have hB1 := (Below.refl w.heap.size w).alloc (Nat.le_refl _) (.cells #[.int .u8 tk, .int .u64 tn, .string ts, .slice tka tks.length tkc, .slice tla tl.length tlc] 27)
    have hB2 := hB1.alloc hB1.size (.cells #[.int .u8 0, .int .u64 0, .string ⟨#[]⟩, .slice none 0 0, .slice none 0 0] 27)
    have A2 := (Blk.new w [.int .u8 tk, .int .u64 tn, .string ts, .slice tka tks.length tkc, .slice tla tl.length tlc] 27).alloc (.cells #[.int .u8 0, .int .u64 0, .string ⟨#[]⟩, .slice none 0 0, .slice none 0 0] 27)
    have C2 := Blk.newK (w.alloc (.cells #[.int .u8 tk, .int .u64 tn, .string ts, .slice tka tks.length tkc, .slice tla tl.length tlc] 27)) [.int .u8 0, .int .u64 0, .string ⟨#[]⟩, .slice none 0 0, .slice none 0 0] 27 (w.heap.size + 1) (by simp)
    have hz2 := Lib.hid (show ((w.alloc (.cells #[.int .u8 tk, .int .u64 tn, .string ts, .slice tka tks.length tkc, .slice tla tl.length tlc] 27)).alloc (.cells #[.int .u8 0, .int .u64 0, .string ⟨#[]⟩, .slice none 0 0, .slice none 0 0] 27)).heap.size = w.heap.size + 2 by simp)
    have hKs := Lib.hid (hK.pure hB2); have hLs := Lib.hid hL
    go_enter Tryd.func40, Tryd.ntmps40
    go_upto_region 1 with fail
    have hA2 := Lib.hid A2; have hC2 := Lib.hid C2; have hB2h := Lib.hid hB2
    have a3 := A2.at 3 rfl; have a4 := A2.at 4 rfl
    clear hB1 hB2 A2 C2 hK hL
    generalize World.alloc (World.alloc w _) _ = W2 at *
    go_upto_region 2 with (go_at_call 58; (with_reducible refine (cstr_clone _ _ tks hKs.out hfh.out.1).mono ?_); rintro e w3 ⟨r3, rfl, O3, hB3⟩; obtain ⟨ka4, kc4, rfl⟩ := own_lenB O3; have A3 := hA2.out.pure hB3; have b3 := A3.at 3 rfl; have bf3 := A3.frozen 3)
    have A4 := Lib.hid (A3.set 3 (.slice ka4 tks.length kc4))
    have O4 := Lib.hid (O3.low w.heap.size 3 (.slice ka4 tks.length kc4) (by have := hz2.out; omega))
    have hU4 := Lib.hid ((Upd.of_below (S := Only w.heap.size) hB3).trans (Upd.set (S := Only w.heap.size) (p := ⟨w.heap.size, 3, none⟩) rfl (.slice ka4 tks.length kc4)) (fun i e _ => e))
    have c4 := A4.out.at 4 rfl
    clear a3 a4 O3 hB3 A3 b3 bf3
    generalize World.setCell w3 _ _ = W4 at *
    have L4 := Lib.hid ((hLs.out.pure hB2h.out).updL hU4.out (fun hne b hb e => by have h1 := slc_lt vEnc_len (by omega) hLs.out hne b hb; unfold Only at e; omega))
    go_upto_region 3 with (go_at_call 59; (with_reducible refine (cval_clone _ _ tl L4.out hfh.out.2.1 hone.out).mono ?_); rintro e w5 ⟨r5, rfl, P5, hB5⟩; obtain ⟨la4, lc4, rfl⟩ := own_lenB P5; have A5 := A4.out.pure hB5; have b4 := A5.at 4 rfl; have bf4 := A5.frozen 4)
    have A6 := Lib.hid (A5.set 4 (.slice la4 tl.length lc4))
    have hM := Lib.hid (show OwSt W2 w.heap.size 0 0 tk tn ts (w5.setCell ⟨w.heap.size, 4, none⟩ (.slice la4 tl.length lc4)) (.slice ka4 tks.length kc4) (.slice la4 tl.length lc4) tks tl tl from
      ⟨A5.set 4 _, (O4.out.pure hB5).low _ _ _ (by have := hz2.out; omega), (P5.rebase (b' := W2.heap.size) (fun i hi => Nat.le_trans hU4.out.size (P5.ge hi))).low _ _ _ (by have := hz2.out; omega), rfl, fun j _ _ _ => rfl, fun j _ _ h => absurd h (by omega),
       (hU4.out.trans (Upd.of_below (S := fun _ => False) hB5) (fun _ e _ => e.elim)).trans (Upd.set (S := Only w.heap.size) (p := ⟨w.heap.size, 4, none⟩) rfl _) (fun i e _ => e), by have := hz2.out; omega⟩)
    have d4 := A6.out.at 4 rfl
    clear c4 A5 b4 bf4 P5 hB5
    generalize World.setCell w5 _ _ = W6 at *
    go_wp2_with fail
    clear d4
    go_loopw [3, 15] (fun s3 s15 wr => ∃ (k : Nat) (L : List VT), k ≤ tl.length ∧ s15 = .int .i64 k ∧ Hid (OwSt W2 w.heap.size 0 k tk tn ts wr (.slice ka4 tks.length kc4) (.slice la4 tl.length lc4) tks tl L)) (fun _ s15 _ => tl.length - (intOf s15).toNat)
    case atStart => exact ⟨0, tl, by omega, rfl, hM⟩
    case round =>
      clear hM
      obtain ⟨k, L, hk, rfl, hMh⟩ := hrel
      have hM := hMh.out
      have hRr := (hRh.out.bel hB2h.out (Nat.le_refl _)).upd hM.up (fun b hb e => by unfold Only at e; omega)
      by_cases hlt : k < tl.length
      · have h1 : (k : Int) < (tl.length : Int) := by omega
        have hml : (tl.length : Int) ≤ 1000000 := by have := hfh.out.2.1; omega
        have hkL : k < L.length := by rw [hM.len]; exact hlt
        obtain ⟨g, rfl, hg⟩ : ∃ g, la4 = some ⟨g, 0, none⟩ ∧ W2.heap.size ≤ g := by
          have h2 := hM.lo
          rw [← hM.len] at h2
          exact own_at' h2 hkL
        have hRk := hRr.sub tl[k] (List.getElem_mem hlt)
        have hLk : L[k] = tl[k] := hM.old k hlt hkL (Nat.le_refl _)
        obtain ⟨xk, xn, xs, xka, xkc, xla, xlc, xks, xl, hx, -⟩ := hRk.open
        have hfk := hfh.out.2.2 tl[k] (List.getElem_mem hlt)
        have hi := fun (u : World) (hR : Rd (· < w.heap.size) u tl[k]) => ihh.out tl[k] (List.getElem_mem hlt) _ u hR hfk
        obtain ⟨xv, hxv⟩ : ∃ xv, tl[k].v = xv := ⟨_, rfl⟩
        have hxvh := Lib.hid hxv
        have hcell : ∀ (u : World), OwSt W2 w.heap.size 0 k tk tn ts u (.slice ka4 tks.length kc4) (.slice (some ⟨g, 0, none⟩) tl.length lc4) tks tl L → u.cell? ⟨g, k * 5, none⟩ = some (.int .u8 xk) ∧ u.cell? ⟨g, k * 5 + 1, none⟩ = some (.int .u64 xn) ∧ u.cell? ⟨g, k * 5 + 2, none⟩ = some (.string xs) ∧ u.cell? ⟨g, k * 5 + 3, none⟩ = some (.slice xka xks.length xkc) ∧ u.cell? ⟨g, k * 5 + 4, none⟩ = some (.slice xla xl.length xlc) := fun u hu => by
          have c := fun j v e => hu.lo.cell vEnc_len k hkL j v e
          rw [hLk, hx] at c
          exact ⟨c 0 _ rfl, c 1 _ rfl, c 2 _ rfl, c 3 _ rfl, c 4 _ rfl⟩
        have hcell := Lib.hid hcell
        have hrk := Lib.hid (fun (u : World) (hR : Rd (· < w.heap.size) u tl[k]) => show Calls Tryd.prog 40 #[VT.arg (.mk xk xn xs (.slice xka xks.length xkc) (.slice xla xl.length xlc) xks xl)] u fun e w' => ∃ t' : VT, e = .returned t'.arg ∧ t'.v = xv ∧ Rd (fun i => u.heap.size ≤ i) w' t' ∧ Below u.heap.size u w' ∧ Own u.heap.size 27 5 vEnc w' t'.lv t'.l by
          rw [← hx, ← hxv]; exact hi u hR)
        simp only [VT.arg_mk] at hrk
        have hM0 := hM.pure (below_refl_dr wr)
        have hRkh := Lib.hid (hRk.pure (below_refl_dr wr))
        have hMhh := Lib.hid hM
        have mx := hM.x.at 4 rfl
        obtain ⟨q0, q1, q2, q3, q4⟩ := hcell.out wr hM
        obtain ⟨r0, r1, r2, r3, r4⟩ := hcell.out wr.drew hM0
        have hAS := Lib.hid (fun (u : World) (hu : Upd (fun i => i = g) wr.drew u) => (hM0.x.upd hu (fun e => by have := hz2.out; omega)).at 4 rfl)
        clear hi hfk hRk hx hxv hRr hMh hM hLk
        go_wp2_with fail
        have hb := (Upd.refl (fun i => i = g) wr.drew)
        refine wp_region_held_drew (S := fun u => Upd (fun i => i = g) wr.drew u) (by kernel_rfl) hb (fun hHeld => ?_)
        refine takeY 0 18 rfl rfl (v := ?_) ?_ hHeld ?_
        rotate_left 1
        · (intro u hSw; (try dsimp only at hSw); clear hSw; go_simp; (try with_reducible rfl))
        try simp only [Act.put, lsT, lsZ, lsS]
        refine takeY 1 19 rfl rfl (v := ?_) ?_ hHeld ?_
        rotate_left 1
        · (intro u hSw; (try dsimp only at hSw); have q := hAS.out u hSw; clear hSw; go_simp; (try with_reducible rfl))
        try simp only [Act.put, lsT, lsZ, lsS]
        refine takeY 2 20 rfl rfl (v := ?_) ?_ hHeld ?_
        rotate_left 1
        · (intro u hSw; (try dsimp only at hSw); clear hSw; go_simp; (try with_reducible rfl))
        try simp only [Act.put, lsT, lsZ, lsS]
        refine takeY 3 21 rfl rfl (v := ?_) ?_ hHeld ?_
        rotate_left 1
        · (intro u hSw; (try dsimp only at hSw); clear hSw; go_simp; (try with_reducible rfl))
        try simp only [Act.put, lsT, lsZ, lsS]
        refine takeY 4 22 rfl rfl (v := ?_) ?_ hHeld ?_
        rotate_left 1
        · (intro u hSw; (try dsimp only at hSw); have q := hAS.out u hSw; clear hSw; go_simp; (try with_reducible rfl))
        try simp only [Act.put, lsT, lsZ, lsS]
        refine takeY 5 23 rfl rfl (v := ?_) ?_ hHeld ?_
        rotate_left 1
        · (intro u hSw; (try dsimp only at hSw); clear hSw; go_simp; (try with_reducible rfl))
        try simp only [Act.put, lsT, lsZ, lsS]
        refine takeY 6 24 rfl rfl (v := ?_) ?_ hHeld ?_
        rotate_left 1
        · (intro u hSw; (try dsimp only at hSw); clear hSw; go_simp; (try with_reducible rfl))
        try simp only [Act.put, lsT, lsZ, lsS]
        refine wpAnyH_ready (rs := [7]) (by kernel_rfl) (by simp) ?_
        refine (AllReadyH.cons rfl (fun K hK => ?_) AllReadyH.nil)
        go_simp
        refine hK.out _ _ hb (fun hHeld => ?_)
        clear hK K
        try simp only [Act.put, lsT, lsZ, lsS]
        refine wpAnyH_ready (rs := [8]) (by kernel_rfl) (by simp) ?_
        refine (AllReadyH.cons rfl (fun K hK => ?_) AllReadyH.nil)
        go_simp
        go_at_call 40
        refine (hrk.out _ hRkh.out).mono ?_
        rintro e w1 ⟨t1, he, htv, htR, hB1, -⟩
        have hM1 := hM0.pure hB1
        have ht1 := hM0.tree htR
        obtain ⟨uk, un, us, uka, ukc, ula, ulc, uks, ul, rfl, -⟩ := htR.open
        rw [VT.arg_mk] at he
        subst he
        have htvh := Lib.hid htv
        clear htv
        have hb := hb.trans (Upd.of_below (S := fun _ => False) hB1) (fun _ e _ => e.elim)
        obtain ⟨s0, s1, s2, s3, s4⟩ := hcell.out w1 hM1
        have f0 := hM1.lo.frozen (k * 5); have f1 := hM1.lo.frozen (k * 5 + 1); have f2 := hM1.lo.frozen (k * 5 + 2); have f3 := hM1.lo.frozen (k * 5 + 3); have f4 := hM1.lo.frozen (k * 5 + 4)
        refine hK.out _ _ hb (fun hHeld => ?_)
        clear hK K
        try simp only [Act.put, lsT, lsZ, lsS]
        refine takeY 9 27 rfl rfl (v := ?_) ?_ hHeld ?_
        rotate_left 1
        · (intro u hSw; (try dsimp only at hSw); clear hSw; go_simp; (try with_reducible rfl))
        try simp only [Act.put, lsT, lsZ, lsS]
        refine wpAnyH_ready (rs := [10]) (by kernel_rfl) (by simp) ?_
        refine (AllReadyH.cons rfl (fun K hK => ?_) AllReadyH.nil)
        go_simp
        have hb := hb.trans (upd_row w1 g (k * 5) (.int .u8 uk) (.int .u64 un) (.string us) (.slice uka uks.length ukc) (.slice ula ul.length ulc)) (fun i e _ => e)
        refine hK.out _ _ hb (fun hHeld => ?_)
        clear hK K
        try simp only [Act.put, lsT, lsZ, lsS]
        refine wpAnyH_done (by kernel_rfl) ?_ _
        have hM2 := Lib.hid (hM1.row hlt ht1 (by rw [htvh.out, hxvh.out]))
        clear hM1 hM0
        go_wp2
        go_roundw
        case rel => exact ⟨k + 1, _, by omega, by go_num, hM2⟩
        case measure => simp [intOf]; omega
      · obtain rfl : k = tl.length := by omega
        have c := hC2.out.upd hM.up (fun e => by unfold Only at e; omega)
        have xx := hM.x
        have c0 := c.at 0 rfl; have z0 := c.frozen 0; have y0 := xx.at 0 rfl; have c1 := c.at 1 rfl; have z1 := c.frozen 1; have y1 := xx.at 1 rfl; have c2 := c.at 2 rfl; have z2 := c.frozen 2; have y2 := xx.at 2 rfl; have c3 := c.at 3 rfl; have z3 := c.frozen 3; have y3 := xx.at 3 rfl; have c4 := c.at 4 rfl; have z4 := c.frozen 4; have y4 := xx.at 4 rfl
        have hMz := Lib.hid hM; have ch := Lib.hid c
        clear c hMh hM hRr xx hlt hk
        go_wp2
        have aF := ch.out.fresh5 (.int .u8 tk) (.int .u64 tn) (.string ts) (.slice ka4 tks.length kc4) (.slice la4 tl.length lc4)
        have k0 := aF.at 0 rfl; have k1 := aF.at 1 rfl; have k2 := aF.at 2 rfl; have k3 := aF.at 3 rfl; have k4 := aF.at 4 rfl
        refine bodyPost_ret (by simp [results, Tryd.results40, go_sem, k0, k1, k2, k3, k4]; rfl) rfl ?_
        have hu5 := Upd.at5 wr (w.heap.size + 1) (.int .u8 tk) (.int .u64 tn) (.string ts) (.slice ka4 tks.length kc4) (.slice la4 tl.length lc4)
        refine ⟨.mk tk tn ts (.slice ka4 tks.length kc4) (.slice la4 tl.length lc4) tks L, rfl, ?_, ?_, ?_, ?_⟩
        · rw [VT.v_eq, VT.v_eq]
          show V.mk tk tn ts tks (L.map VT.v) = V.mk tk tn ts tks (tl.map VT.v)
          rw [hMz.out.same]
        · exact (hMz.out.whole hu5 (fun i e => by have := hz2.out; omega) hnk.out.1 hnk.out.2.1 hnk.out.2.2.1 hnk.out.2.2.2).weaken (fun i _ hi => by have := hz2.out; omega)
        · exact (hB2h.out.trans (hMz.out.up.below hB2h.out.size (fun i e => by unfold Only at e; omega))).trans (hu5.below (by have := hMz.out.up.size; have := hB2h.out.size; omega) (fun i e => by omega))
        · exact (hMz.out.lo.upd hu5 (fun i hi e => by have h1 := hMz.out.lo.ge hi; have h2 := hz2.out; omega)).rebase (fun i hi => by have h1 := hMz.out.lo.ge hi; have h2 := hz2.out; omega)
end Go.Proofs.YtokemjpobfjiaaaDoor

/- Values: Find, the program's and the document's. Conditions: utf8's tables are laid (the program's). Written by gen_vfind.py. -/
namespace Go.Proofs.YtokemjpobfjiaaaDoor
set_option linter.unusedSimpArgs false
set_option linter.unusedVariables false
open Go.RowKit
set_option maxHeartbeats 400000 in
theorem strIndex_any (w : World) (t : ByteArray) (v : Value) (L : List ByteArray) (hs : Slc strEnc 1 w v L) :
    Calls Tryd.prog 39 #[v, .string t] w fun e w' => 
      e = .returned (.int .i64 (idxOf (L.findIdx? (fun x => sameS t x)))) ∧ w = w' := by
  rcases hs with ⟨a, cap, rfl, _, rfl⟩ | ⟨g, off, cap, rfl, h1, h2, hc⟩
  · go_enter Tryd.func39, Tryd.ntmps39
    go_wp2
    go_loop [8] (fun s8 => s8 = .int .i64 0) (fun _ => 0)
    case atStart => exact rfl
    case round =>
      obtain rfl := hrel
      go_wp2
      go_ret
      exact ⟨rfl, rfl⟩
  · unfold maxLen at h2
    go_enter Tryd.func39, Tryd.ntmps39
    go_wp2
    go_loop [8] (fun s8 => ∃ k : Nat, k ≤ L.length ∧ s8 = .int .i64 k ∧ (L.take k).findIdx? (fun x => sameS t x) = none) (fun s8 => L.length - (intOf s8).toNat)
    case atStart => exact ⟨0, by omega, rfl, by simp⟩
    case round =>
      obtain ⟨k, hk, rfl, hno⟩ := hrel
      have hno' := Lib.hid hno; clear hno
      by_cases hlt : k < L.length
      · have c0 := hc k hlt 0 _ rfl
        clear hc
        simp only [Nat.add_zero, Nat.mul_one] at c0
        cases hq : sameS t L[k]
        · have hq' := Lib.hid hq
          unfold sameS at hq
          go_wp2
          go_round
          case rel => exact ⟨k + 1, by omega, by go_num, findP_no hlt hno'.out hq'.out⟩
          case measure => simp [intOf]; omega
        · have hq' := Lib.hid hq
          unfold sameS at hq
          go_wp2
          go_ret
          refine ⟨?_, rfl⟩
          rw [findP_yes hlt hno'.out hq'.out]; rfl
      · go_wp2
        go_ret
        have : k = L.length := by omega
        subst this
        refine ⟨?_, rfl⟩
        have := hno'.out
        rw [List.take_length] at this
        rw [this]; rfl


/-- The value of a key, if there is one. -/
def V.find (key : ByteArray) (v : V) : Option V := if v.kind = 168 ∧ v.chk = 0 then (v.keys.findIdx? (fun x => sameS key x)).bind (fun i => v.list[i]?) else none
theorem chk_lens {tk tn : Int} {ts : ByteArray} {kv lv : Value} {ks : List ByteArray} {l : List VT} (h : (VT.mk tk tn ts kv lv ks l).v.chk = 0) (hk : tk = 168) : ks.length = l.length := by
  obtain ⟨-, -, h3⟩ := chk_zero h
  rw [VT.v_eq] at h3
  have h4 := headOk_cases (may_mk h3).1
  have hk' : VT.k (VT.mk tk tn ts kv lv ks l) = 168 := hk
  rw [hk'] at h4
  rcases h4 with h | h | h | h | h | h | h | h
  all_goals first | (exfalso; omega) | skip
  have h5 := h.2.2.2.1
  rw [List.length_map] at h5
  exact h5
theorem find_no {key : ByteArray} {tk tn : Int} {ts : ByteArray} {kv lv : Value} {ks : List ByteArray} {l : List VT} (h : tk ≠ 168 ∨ (VT.mk tk tn ts kv lv ks l).v.chk ≠ 0) : V.find key (VT.mk tk tn ts kv lv ks l).v = none := by
  unfold V.find
  refine if_neg (fun e => ?_)
  rcases h with h | h
  · exact h (by have := e.1; rw [VT.v_eq] at this; exact this)
  · exact h e.2
theorem find_idx {key : ByteArray} {tk tn : Int} {ts : ByteArray} {kv lv : Value} {ks : List ByteArray} {l : List VT} (h : tk = 168) (h2 : (VT.mk tk tn ts kv lv ks l).v.chk = 0) : V.find key (VT.mk tk tn ts kv lv ks l).v = (ks.findIdx? (fun x => sameS key x)).bind (fun i => (l.map VT.v)[i]?) := by
  unfold V.find
  have e : (VT.mk tk tn ts kv lv ks l).v.kind = 168 := by rw [VT.v_eq]; exact h
  rw [if_pos ⟨e, h2⟩, VT.v_eq]; rfl
theorem find_got {key : ByteArray} {tk tn : Int} {ts : ByteArray} {kv lv : Value} {ks : List ByteArray} {l : List VT} (h : tk = 168) (h2 : (VT.mk tk tn ts kv lv ks l).v.chk = 0) {i : Nat} (hi : ks.findIdx? (fun x => sameS key x) = some i) (hl : i < l.length) : V.find key (VT.mk tk tn ts kv lv ks l).v = some l[i].v := by
  rw [find_idx h h2, hi, Option.bind_some, List.getElem?_map, List.getElem?_eq_getElem hl]; rfl
theorem sameS_comm (a b : ByteArray) : sameS a b = sameS b a := by unfold sameS; exact Bool.eq_iff_iff.2 ⟨fun h => by rw [beq_iff_eq] at *; exact h.symm, fun h => by rw [beq_iff_eq] at *; exact h.symm⟩
/-- What Find tells: the value in blocks of which Q holds. -/
def FindPost (Q : Nat → Prop) (own : Bool) (w : World) (o : Option V) (e : Ending) (w' : World) : Prop := ∃ (uk un : Int) (us : ByteArray) (uka : Option Addr) (ukc : Nat) (ula : Option Addr) (ulc : Nat) (uks : List ByteArray) (ul : List VT),
  e = .returned (.tuple #[.agg #[.int .u8 uk, .int .u64 un, .string us, .slice uka uks.length ukc, .slice ula ul.length ulc], .bool o.isSome]) ∧ (VT.mk uk un us (.slice uka uks.length ukc) (.slice ula ul.length ulc) uks ul).v = o.getD (V.mk 0 0 ⟨#[]⟩ [] []) ∧
  Rd Q w' (VT.mk uk un us (.slice uka uks.length ukc) (.slice ula ul.length ulc) uks ul) ∧ Below w.heap.size w w' ∧ (own = true → Own w.heap.size 27 5 vEnc w' (.slice ula ul.length ulc) ul)

set_option maxRecDepth 100000 in
set_option maxHeartbeats 6400000 in
theorem pfind_any (t : VT) (key : ByteArray) (P : Nat → Prop) (w : World) (hR : Rd P w t) (hK : V.Kfit t.v) (hT : Tb w) : Calls Tryd.prog 19 #[t.arg, .string key] w (FindPost (fun i => w.heap.size ≤ i) true w (V.find key t.v)) := by
  have hR0 := hR.here
  obtain ⟨tk, tn, ts, tka, tkc, tla, tlc, tks, tl, rfl, -, -, hmk, hml⟩ := hR.open
  rw [VT.arg_mk]
  have hB1 := (Below.refl w.heap.size w).alloc (Nat.le_refl _) (.cells #[.int .u8 tk, .int .u64 tn, .string ts, .slice tka tks.length tkc, .slice tla tl.length tlc] 27)
  have hB2 := hB1.alloc hB1.size (.cells #[.int .u8 0, .int .u64 0, .string ⟨#[]⟩, .slice none 0 0, .slice none 0 0] 27)
  have A2 := (Blk.new w [.int .u8 tk, .int .u64 tn, .string ts, .slice tka tks.length tkc, .slice tla tl.length tlc] 27).alloc (.cells #[.int .u8 0, .int .u64 0, .string ⟨#[]⟩, .slice none 0 0, .slice none 0 0] 27)
  have C2 := Blk.newK (w.alloc (.cells #[.int .u8 tk, .int .u64 tn, .string ts, .slice tka tks.length tkc, .slice tla tl.length tlc] 27)) [.int .u8 0, .int .u64 0, .string ⟨#[]⟩, .slice none 0 0, .slice none 0 0] 27 (w.heap.size + 1) (by simp)
  have hz2 := Lib.hid (show ((w.alloc (.cells #[.int .u8 tk, .int .u64 tn, .string ts, .slice tka tks.length tkc, .slice tla tl.length tlc] 27)).alloc (.cells #[.int .u8 0, .int .u64 0, .string ⟨#[]⟩, .slice none 0 0, .slice none 0 0] 27)).heap.size = w.heap.size + 2 by simp)
  have R2 := Lib.hid (hR0.pure hB2)
  have hRh := Lib.hid hR0
  have a0 := A2.at 0 rfl; have a1 := A2.at 1 rfl; have a2 := A2.at 2 rfl; have a3 := A2.at 3 rfl; have a4 := A2.at 4 rfl
  obtain ⟨cx, hcx⟩ : ∃ cx, (VT.mk tk tn ts (.slice tka tks.length tkc) (.slice tla tl.length tlc) tks tl).v.chk = cx := ⟨_, rfl⟩
  have hcxh := Lib.hid hcx
  clear hR hR0 hcx
  go_enter Tryd.func19, Tryd.ntmps19
  go_upto_region 1 with fail
  have hA2 := Lib.hid A2; have hC2 := Lib.hid C2; have hB2h := Lib.hid hB2
  clear hB1 hB2 A2 C2
  generalize World.alloc (World.alloc w _) _ = W2 at *
  by_cases hk : tk = 168
  rotate_left 1
  · have hk1 : decide (tk = 168) = false := decide_eq_false hk
    have C2 := hC2.out
    have c0 := C2.at 0 rfl; have z0 := C2.frozen 0; have c1 := C2.at 1 rfl; have z1 := C2.frozen 1; have c2 := C2.at 2 rfl; have z2 := C2.frozen 2; have c3 := C2.at 3 rfl; have z3 := C2.frozen 3; have c4 := C2.at 4 rfl; have z4 := C2.frozen 4
    have hkh := Lib.hid hk
    clear C2
    go_wp2
    have aF := hC2.out.fresh5 (.int .u8 0) (.int .u64 0) (.string ⟨#[]⟩) (.slice none 0 0) (.slice none 0 0)
    have k0 := aF.at 0 rfl; have k1 := aF.at 1 rfl; have k2 := aF.at 2 rfl; have k3 := aF.at 3 rfl; have k4 := aF.at 4 rfl
    have hu5 := Upd.at5 W2 (w.heap.size + 1) (.int .u8 0) (.int .u64 0) (.string ⟨#[]⟩) (.slice none 0 0) (.slice none 0 0)
    refine bodyPost_ret (by simp [results, Tryd.results19, go_sem, k0, k1, k2, k3, k4]; rfl) rfl ?_
    have hno : V.find key (VT.mk tk tn ts (.slice tka tks.length tkc) (.slice tla tl.length tlc) tks tl).v = none := find_no (key := key) (.inl hkh.out)
    rw [hno]
    exact ⟨0, 0, ⟨#[]⟩, none, 0, none, 0, [], [], rfl, VT.zero_v, VT.zero_rd, hB2h.out.trans (hu5.below hB2h.out.size (fun i e => by omega)), fun _ => Own.nil⟩
  subst hk
  by_cases h1 : cx = 0
  rotate_left 1
  · have h2 : (cx == 0) = false := beq_eq_false_iff_ne.2 h1
    have hch := Lib.hid h1
    clear h1
    go_wp2_with (go_at_call 14; refine (check_any (VT.mk 168 tn ts (.slice tka tks.length tkc) (.slice tla tl.length tlc) tks tl) _ _ R2.out (hT.pure hB2h.out)).mono ?_; rintro e w3 ⟨rfl, hB3⟩; rw [hcxh.out]; have hB03 := hB2h.out.trans (hB3.mono hB2h.out.size); have A3 := hA2.out.pure hB3; have C3 := hC2.out.pure hB3; have R3 := R2.out.pure hB3; have K3 : Slc strEnc 1 w3 (.slice tka tks.length tkc) tks := R3.kv; have b0 := A3.at 0 rfl; have b1 := A3.at 1 rfl; have b2 := A3.at 2 rfl; have b3 := A3.at 3 rfl; have b4 := A3.at 4 rfl; have c0 := C3.at 0 rfl; have z0 := C3.frozen 0; have c1 := C3.at 1 rfl; have z1 := C3.frozen 1; have c2 := C3.at 2 rfl; have z2 := C3.frozen 2; have c3 := C3.at 3 rfl; have z3 := C3.frozen 3; have c4 := C3.at 4 rfl; have z4 := C3.frozen 4)
    have ch := Lib.hid C3
    clear c0 c1 c2 c3 c4 z0 z1 z2 z3 z4 C3
    have aF := ch.out.fresh5 (.int .u8 0) (.int .u64 0) (.string ⟨#[]⟩) (.slice none 0 0) (.slice none 0 0)
    have k0 := aF.at 0 rfl; have k1 := aF.at 1 rfl; have k2 := aF.at 2 rfl; have k3 := aF.at 3 rfl; have k4 := aF.at 4 rfl
    have hu5 := Upd.at5 w3 (w.heap.size + 1) (.int .u8 0) (.int .u64 0) (.string ⟨#[]⟩) (.slice none 0 0) (.slice none 0 0)
    refine bodyPost_ret (by simp [results, Tryd.results19, go_sem, k0, k1, k2, k3, k4]; rfl) rfl ?_
    have hno : V.find key (VT.mk 168 tn ts (.slice tka tks.length tkc) (.slice tla tl.length tlc) tks tl).v = none := find_no (key := key) (.inr (by rw [hcxh.out]; exact hch.out))
    rw [hno]
    exact ⟨0, 0, ⟨#[]⟩, none, 0, none, 0, [], [], rfl, VT.zero_v, VT.zero_rd, hB03.trans (hu5.below hB03.size (fun i e => by omega)), fun _ => Own.nil⟩
  subst h1
  have hlen := Lib.hid (chk_lens hcxh.out rfl)
  rcases hix : tks.findIdx? (fun x => sameS key x) with _ | i
  · have hfi := Lib.hid (show V.find key (VT.mk 168 tn ts (.slice tka tks.length tkc) (.slice tla tl.length tlc) tks tl).v = none by rw [find_idx rfl hcxh.out, hix]; rfl)
    have hI := fun (u : World) (hu : Slc strEnc 1 u (.slice tka tks.length tkc) tks) => show Calls Tryd.prog 39 #[.slice tka tks.length tkc, .string key] u (fun e w' => e = .returned (.int .i64 (-1)) ∧ u = w') by
      have h := strIndex_any u key _ tks hu
      rw [hix] at h; exact h
    have hIh := Lib.hid hI
    clear hix hI
    go_wp2_with (first | (go_at_call 14; refine (check_any (VT.mk 168 tn ts (.slice tka tks.length tkc) (.slice tla tl.length tlc) tks tl) _ _ R2.out (hT.pure hB2h.out)).mono ?_; rintro e w3 ⟨rfl, hB3⟩; rw [hcxh.out]; have hB03 := hB2h.out.trans (hB3.mono hB2h.out.size); have A3 := hA2.out.pure hB3; have C3 := hC2.out.pure hB3; have R3 := R2.out.pure hB3; have K3 : Slc strEnc 1 w3 (.slice tka tks.length tkc) tks := R3.kv; have b0 := A3.at 0 rfl; have b1 := A3.at 1 rfl; have b2 := A3.at 2 rfl; have b3 := A3.at 3 rfl; have b4 := A3.at 4 rfl; have c0 := C3.at 0 rfl; have z0 := C3.frozen 0; have c1 := C3.at 1 rfl; have z1 := C3.frozen 1; have c2 := C3.at 2 rfl; have z2 := C3.frozen 2; have c3 := C3.at 3 rfl; have z3 := C3.frozen 3; have c4 := C3.at 4 rfl; have z4 := C3.frozen 4) | (go_at_call 39; (with_reducible refine (hIh.out _ K3).mono ?_); rintro e w4 ⟨rfl, rfl⟩))
    have ch := Lib.hid C3
    clear c0 c1 c2 c3 c4 z0 z1 z2 z3 z4 C3
    have aF := ch.out.fresh5 (.int .u8 0) (.int .u64 0) (.string ⟨#[]⟩) (.slice none 0 0) (.slice none 0 0)
    have k0 := aF.at 0 rfl; have k1 := aF.at 1 rfl; have k2 := aF.at 2 rfl; have k3 := aF.at 3 rfl; have k4 := aF.at 4 rfl
    have hu5 := Upd.at5 w3 (w.heap.size + 1) (.int .u8 0) (.int .u64 0) (.string ⟨#[]⟩) (.slice none 0 0) (.slice none 0 0)
    refine bodyPost_ret (by simp [results, Tryd.results19, go_sem, k0, k1, k2, k3, k4]; rfl) rfl ?_
    have hno : V.find key (VT.mk 168 tn ts (.slice tka tks.length tkc) (.slice tla tl.length tlc) tks tl).v = none := hfi.out
    rw [hno]
    exact ⟨0, 0, ⟨#[]⟩, none, 0, none, 0, [], [], rfl, VT.zero_v, VT.zero_rd, hB03.trans (hu5.below hB03.size (fun i e => by omega)), fun _ => Own.nil⟩
  · have hik : i < tks.length := (List.findIdx?_eq_some_iff_getElem.1 hix).1
    have hil : i < tl.length := by have := hlen.out; omega
    have hil1 : (i : Int) < (tl.length : Int) := by omega
    have hfi := Lib.hid (find_got rfl hcxh.out hix hil)
    have hI := fun (u : World) (hu : Slc strEnc 1 u (.slice tka tks.length tkc) tks) => show Calls Tryd.prog 39 #[.slice tka tks.length tkc, .string key] u (fun e w' => e = .returned (.int .i64 (i : Int)) ∧ u = w') by
      have h := strIndex_any u key _ tks hu
      rw [hix] at h; exact h
    have hIh := Lib.hid hI
    have hfk := Lib.hid (show V.Fit tl[i].v by
      have h1 : V.Fit (VT.mk 168 tn ts (.slice tka tks.length tkc) (.slice tla tl.length tlc) tks tl).v := by
        obtain ⟨-, h2, -⟩ := chk_zero hcxh.out
        exact fit_of _ 200 hK h2 (by omega)
      rw [VT.v_eq] at h1
      cases h1 with
      | mk h1 h2 h3 => exact h3 _ (List.mem_map.2 ⟨_, List.getElem_mem hil, rfl⟩))
    clear hix hI hK
    go_upto_region 6 with (first | (go_at_call 14; refine (check_any (VT.mk 168 tn ts (.slice tka tks.length tkc) (.slice tla tl.length tlc) tks tl) _ _ R2.out (hT.pure hB2h.out)).mono ?_; rintro e w3 ⟨rfl, hB3⟩; rw [hcxh.out]; have hB03 := hB2h.out.trans (hB3.mono hB2h.out.size); have A3 := hA2.out.pure hB3; have C3 := hC2.out.pure hB3; have R3 := R2.out.pure hB3; have K3 : Slc strEnc 1 w3 (.slice tka tks.length tkc) tks := R3.kv; have b0 := A3.at 0 rfl; have b1 := A3.at 1 rfl; have b2 := A3.at 2 rfl; have b3 := A3.at 3 rfl; have b4 := A3.at 4 rfl; have c0 := C3.at 0 rfl; have z0 := C3.frozen 0; have c1 := C3.at 1 rfl; have z1 := C3.frozen 1; have c2 := C3.at 2 rfl; have z2 := C3.frozen 2; have c3 := C3.at 3 rfl; have z3 := C3.frozen 3; have c4 := C3.at 4 rfl; have z4 := C3.frozen 4) | (go_at_call 39; (with_reducible refine (hIh.out _ K3).mono ?_); rintro e w4 ⟨rfl, rfl⟩))
    have hLr : Slc vEnc 5 w3 (.slice tla tl.length tlc) tl := R3.lv
    obtain ⟨g0, off, rfl⟩ := hLr.addrB hil
    have hRk := R3.sub tl[i] (List.getElem_mem hil)
    obtain ⟨xk, xn, xs, xka, xkl, xkc, xla, xll, xlc, xks, xl, hx, q0, q1, q2, q3, q4⟩ := v_elem hLr hil hRk
    have hown := fun (u : World) (hR : Rd (· < w.heap.size) u tl[i]) => pown_any tl[i] _ u hR hfk.out
    obtain ⟨xv, hxv⟩ : ∃ xv, tl[i].v = xv := ⟨_, rfl⟩
    have hxvh := Lib.hid hxv
    rw [hxv] at hown
    rw [hx, VT.arg_mk] at hown
    rw [hx] at hRk
    have hown := Lib.hid hown
    clear hx hxv
    go_wp2_with (go_at_call 40; refine (hown.out _ hRk).mono ?_; rintro e w5 ⟨t5, he, htv, htR, hB5, hO5⟩; have C5 := C3.pure hB5; have hB05 := hB03.trans (hB5.mono hB03.size); obtain ⟨uk, un, us, uka, ukc, ula, ulc, uks, ul, rfl, -⟩ := htR.open; rw [VT.arg_mk] at he; subst he; have htvh := Lib.hid htv; have hO5h := Lib.hid hO5; clear htv hO5; have d0 := C5.at 0 rfl; have e0 := C5.frozen 0; have d1 := C5.at 1 rfl; have e1 := C5.frozen 1; have d2 := C5.at 2 rfl; have e2 := C5.frozen 2; have d3 := C5.at 3 rfl; have e3 := C5.frozen 3; have d4 := C5.at 4 rfl; have e4 := C5.frozen 4)
    have ch := Lib.hid C5; have hB3s := Lib.hid hB03.size
    clear d0 d1 d2 d3 d4 e0 e1 e2 e3 e4 c0 c1 c2 c3 c4 z0 z1 z2 z3 z4 C5 C3
    have aF := ch.out.fresh5 (.int .u8 uk) (.int .u64 un) (.string us) (.slice uka uks.length ukc) (.slice ula ul.length ulc)
    have k0 := aF.at 0 rfl; have k1 := aF.at 1 rfl; have k2 := aF.at 2 rfl; have k3 := aF.at 3 rfl; have k4 := aF.at 4 rfl
    have hu5 := Upd.at5 w5 (w.heap.size + 1) (.int .u8 uk) (.int .u64 un) (.string us) (.slice uka uks.length ukc) (.slice ula ul.length ulc)
    refine bodyPost_ret (by simp [results, Tryd.results19, go_sem, k0, k1, k2, k3, k4]; rfl) rfl ?_
    rw [hfi.out]
    exact ⟨_, _, _, _, _, _, _, _, _, rfl, (by rw [htvh.out, hxvh.out]; rfl), ((htR.upd hu5 (fun i hi e => by have h1 := hB3.size; have h2 := hz2.out; omega)).weaken (fun i _ hi => Nat.le_trans hB3s.out hi)), hB05.trans (hu5.below hB05.size (fun i e => by omega)), fun _ => (hO5h.out.upd hu5 (fun i hi e => by have h0 := hO5h.out.ge hi; have h1 := hB3.size; have h2 := hz2.out; omega)).rebase (fun i hi => Nat.le_trans hB3s.out (hO5h.out.ge hi))⟩
set_option maxRecDepth 100000 in
set_option maxHeartbeats 6400000 in
theorem dfind_any (t : VT) (key : ByteArray) (P : Nat → Prop) (w : World) (hR : Rd P w t) : Calls Tryd.prog 20 #[t.arg, .string key] w (FindPost (· < w.heap.size) false w (V.find key t.v)) := by
  have hR0 := hR.here
  obtain ⟨tk, tn, ts, tka, tkc, tla, tlc, tks, tl, rfl, -, -, hmk, hml⟩ := hR.open
  rw [VT.arg_mk]
  have hB1 := (Below.refl w.heap.size w).alloc (Nat.le_refl _) (.cells #[.int .u8 tk, .int .u64 tn, .string ts, .slice tka tks.length tkc, .slice tla tl.length tlc] 27)
  have hB2 := hB1.alloc hB1.size (.cells #[.int .u8 0, .int .u64 0, .string ⟨#[]⟩, .slice none 0 0, .slice none 0 0] 27)
  have A2 := (Blk.new w [.int .u8 tk, .int .u64 tn, .string ts, .slice tka tks.length tkc, .slice tla tl.length tlc] 27).alloc (.cells #[.int .u8 0, .int .u64 0, .string ⟨#[]⟩, .slice none 0 0, .slice none 0 0] 27)
  have C2 := Blk.newK (w.alloc (.cells #[.int .u8 tk, .int .u64 tn, .string ts, .slice tka tks.length tkc, .slice tla tl.length tlc] 27)) [.int .u8 0, .int .u64 0, .string ⟨#[]⟩, .slice none 0 0, .slice none 0 0] 27 (w.heap.size + 1) (by simp)
  have hz2 := Lib.hid (show ((w.alloc (.cells #[.int .u8 tk, .int .u64 tn, .string ts, .slice tka tks.length tkc, .slice tla tl.length tlc] 27)).alloc (.cells #[.int .u8 0, .int .u64 0, .string ⟨#[]⟩, .slice none 0 0, .slice none 0 0] 27)).heap.size = w.heap.size + 2 by simp)
  have R2 := Lib.hid (hR0.pure hB2)
  have hRh := Lib.hid hR0
  have a0 := A2.at 0 rfl; have a1 := A2.at 1 rfl; have a2 := A2.at 2 rfl; have a3 := A2.at 3 rfl; have a4 := A2.at 4 rfl
  obtain ⟨cx, hcx⟩ : ∃ cx, (VT.mk tk tn ts (.slice tka tks.length tkc) (.slice tla tl.length tlc) tks tl).v.chk = cx := ⟨_, rfl⟩
  have hcxh := Lib.hid hcx
  clear hR hR0 hcx
  go_enter Tryd.func20, Tryd.ntmps20
  go_upto_region 1 with fail
  have hA2 := Lib.hid A2; have hC2 := Lib.hid C2; have hB2h := Lib.hid hB2
  clear hB1 hB2 A2 C2
  generalize World.alloc (World.alloc w _) _ = W2 at *
  by_cases hk : tk = 168
  rotate_left 1
  · have hk1 : decide (tk = 168) = false := decide_eq_false hk
    have C2 := hC2.out
    have c0 := C2.at 0 rfl; have z0 := C2.frozen 0; have c1 := C2.at 1 rfl; have z1 := C2.frozen 1; have c2 := C2.at 2 rfl; have z2 := C2.frozen 2; have c3 := C2.at 3 rfl; have z3 := C2.frozen 3; have c4 := C2.at 4 rfl; have z4 := C2.frozen 4
    have hkh := Lib.hid hk
    clear C2
    go_wp2
    have aF := hC2.out.fresh5 (.int .u8 0) (.int .u64 0) (.string ⟨#[]⟩) (.slice none 0 0) (.slice none 0 0)
    have k0 := aF.at 0 rfl; have k1 := aF.at 1 rfl; have k2 := aF.at 2 rfl; have k3 := aF.at 3 rfl; have k4 := aF.at 4 rfl
    have hu5 := Upd.at5 W2 (w.heap.size + 1) (.int .u8 0) (.int .u64 0) (.string ⟨#[]⟩) (.slice none 0 0) (.slice none 0 0)
    refine bodyPost_ret (by simp [results, Tryd.results20, go_sem, k0, k1, k2, k3, k4]; rfl) rfl ?_
    have hno : V.find key (VT.mk tk tn ts (.slice tka tks.length tkc) (.slice tla tl.length tlc) tks tl).v = none := find_no (key := key) (.inl hkh.out)
    rw [hno]
    exact ⟨0, 0, ⟨#[]⟩, none, 0, none, 0, [], [], rfl, VT.zero_v, VT.zero_rd, hB2h.out.trans (hu5.below hB2h.out.size (fun i e => by omega)), fun _ => Own.nil⟩
  subst hk
  by_cases h1 : cx = 0
  rotate_left 1
  · have h2 : (cx == 0) = false := beq_eq_false_iff_ne.2 h1
    have hch := Lib.hid h1
    clear h1
    go_wp2_with (go_at_call 25; refine (dcheck_any (VT.mk 168 tn ts (.slice tka tks.length tkc) (.slice tla tl.length tlc) tks tl) _ _ R2.out).mono ?_; rintro e w3 ⟨rfl, hB3⟩; rw [hcxh.out]; have hB03 := hB2h.out.trans (hB3.mono hB2h.out.size); have A3 := hA2.out.pure hB3; have C3 := hC2.out.pure hB3; have R3 := R2.out.pure hB3; have K3 : Slc strEnc 1 w3 (.slice tka tks.length tkc) tks := R3.kv; have b0 := A3.at 0 rfl; have b1 := A3.at 1 rfl; have b2 := A3.at 2 rfl; have b3 := A3.at 3 rfl; have b4 := A3.at 4 rfl; have c0 := C3.at 0 rfl; have z0 := C3.frozen 0; have c1 := C3.at 1 rfl; have z1 := C3.frozen 1; have c2 := C3.at 2 rfl; have z2 := C3.frozen 2; have c3 := C3.at 3 rfl; have z3 := C3.frozen 3; have c4 := C3.at 4 rfl; have z4 := C3.frozen 4)
    have ch := Lib.hid C3
    clear c0 c1 c2 c3 c4 z0 z1 z2 z3 z4 C3
    have aF := ch.out.fresh5 (.int .u8 0) (.int .u64 0) (.string ⟨#[]⟩) (.slice none 0 0) (.slice none 0 0)
    have k0 := aF.at 0 rfl; have k1 := aF.at 1 rfl; have k2 := aF.at 2 rfl; have k3 := aF.at 3 rfl; have k4 := aF.at 4 rfl
    have hu5 := Upd.at5 w3 (w.heap.size + 1) (.int .u8 0) (.int .u64 0) (.string ⟨#[]⟩) (.slice none 0 0) (.slice none 0 0)
    refine bodyPost_ret (by simp [results, Tryd.results20, go_sem, k0, k1, k2, k3, k4]; rfl) rfl ?_
    have hno : V.find key (VT.mk 168 tn ts (.slice tka tks.length tkc) (.slice tla tl.length tlc) tks tl).v = none := find_no (key := key) (.inr (by rw [hcxh.out]; exact hch.out))
    rw [hno]
    exact ⟨0, 0, ⟨#[]⟩, none, 0, none, 0, [], [], rfl, VT.zero_v, VT.zero_rd, hB03.trans (hu5.below hB03.size (fun i e => by omega)), fun _ => Own.nil⟩
  subst h1
  have hlen := Lib.hid (chk_lens hcxh.out rfl)
  go_wp2_with (go_at_call 25; refine (dcheck_any (VT.mk 168 tn ts (.slice tka tks.length tkc) (.slice tla tl.length tlc) tks tl) _ _ R2.out).mono ?_; rintro e w3 ⟨rfl, hB3⟩; rw [hcxh.out]; have hB03 := hB2h.out.trans (hB3.mono hB2h.out.size); have A3 := hA2.out.pure hB3; have C3 := hC2.out.pure hB3; have R3 := R2.out.pure hB3; have K3 : Slc strEnc 1 w3 (.slice tka tks.length tkc) tks := R3.kv; have b0 := A3.at 0 rfl; have b1 := A3.at 1 rfl; have b2 := A3.at 2 rfl; have b3 := A3.at 3 rfl; have b4 := A3.at 4 rfl; have c0 := C3.at 0 rfl; have z0 := C3.frozen 0; have c1 := C3.at 1 rfl; have z1 := C3.frozen 1; have c2 := C3.at 2 rfl; have z2 := C3.frozen 2; have c3 := C3.at 3 rfl; have z3 := C3.frozen 3; have c4 := C3.at 4 rfl; have z4 := C3.frozen 4)
  clear c0 c1 c2 c3 c4 z0 z1 z2 z3 z4 b0 b1 b2 b3 b4 a0 a1 a2 a3 a4
  have hA3 := Lib.hid A3; have hC3 := Lib.hid C3; have hR3 := Lib.hid R3
  clear A3 C3 R3
  go_loopw [6] (fun s6 wr => ∃ k : Nat, k ≤ tks.length ∧ s6 = .int .i64 k ∧ wr = w3 ∧ Hid ((tks.take k).findIdx? (fun x => sameS key x) = none)) (fun s6 _ => tks.length - (intOf s6).toNat)
  case atStart => exact ⟨0, by omega, rfl, rfl, Lib.hid (by simp)⟩
  case round =>
    obtain ⟨k, hk, rfl, rfl, hno⟩ := hrel
    have a3 := hA3.out.at 3 rfl; have a4 := hA3.out.at 4 rfl
    by_cases hlt : k < tks.length
    · have h1 : (k : Int) < (tks.length : Int) := by omega
      have hKr := hR3.out.kv
      have hil : k < tl.length := by have := hlen.out; omega
      have hil1 : (k : Int) < (tl.length : Int) := by omega
      obtain ⟨kg, koff, hka⟩ := hKr.addrB hlt
      have hka' : tka = some ⟨kg, koff, none⟩ := hka
      subst hka'
      have kq := hKr.get k hlt 0 _ rfl
      rw [Nat.mul_one, Nat.add_zero] at kq
      obtain ⟨kx, hkx⟩ : ∃ kx, tks[k] = kx := ⟨_, rfl⟩
      have kq' : wr.cell? ⟨kg, koff + k, none⟩ = some (.string kx) := by rw [← hkx]; exact kq
      clear kq hka hKr
      cases hq : sameS key kx
      · have hnx := Lib.hid (findP_no hlt hno.out (by rw [hkx]; exact hq))
        rw [sameS_comm] at hq
        unfold sameS at hq
        clear hkx
        go_wp2
        go_roundw
        case rel => exact ⟨k + 1, by omega, by go_num, trivial, hnx⟩
        case measure => simp [intOf]; omega
      · have hnx := findP_yes hlt hno.out (by rw [hkx]; exact hq)
        have hfi := Lib.hid (find_got rfl hcxh.out hnx hil)
        have hR3' := hR3.out
        rw [sameS_comm] at hq
        unfold sameS at hq
        clear hkx hnx
        have hLr : Slc vEnc 5 wr (.slice tla tl.length tlc) tl := hR3'.lv
        obtain ⟨g0, off, rfl⟩ := hLr.addrB hil
        have hRk := hR3'.sub tl[k] (List.getElem_mem hil)
        obtain ⟨xk, xn, xs, xka, xkl, xkc, xla, xll, xlc, xks, xl, hx, q0, q1, q2, q3, q4⟩ := v_elem hLr hil hRk
        have hxh := Lib.hid hx
        have hRkh := Lib.hid hRk
        have cc := hC3.out
        have c0 := cc.at 0 rfl; have z0 := cc.frozen 0; have c1 := cc.at 1 rfl; have z1 := cc.frozen 1; have c2 := cc.at 2 rfl; have z2 := cc.frozen 2; have c3 := cc.at 3 rfl; have z3 := cc.frozen 3; have c4 := cc.at 4 rfl; have z4 := cc.frozen 4
        clear hx hRk hR3' hLr cc
        go_wp2
        have hxl : xkl = xks.length ∧ xll = xl.length := by
          have h1 := hRkh.out
          rw [hxh.out] at h1
          obtain ⟨_, _, _, _, _, _, _, _, _, he, -⟩ := h1.open
          simp only [VT.mk.injEq, Value.slice.injEq] at he
          obtain ⟨-, -, -, ⟨-, h2, -⟩, ⟨-, h3, -⟩, h4, h5⟩ := he
          exact ⟨by rw [h2, h4], by rw [h3, h5]⟩
        obtain ⟨rfl, rfl⟩ := hxl
        have aF := hC3.out.fresh5 (.int .u8 xk) (.int .u64 xn) (.string xs) (.slice xka xks.length xkc) (.slice xla xl.length xlc)
        have k0 := aF.at 0 rfl; have k1 := aF.at 1 rfl; have k2 := aF.at 2 rfl; have k3 := aF.at 3 rfl; have k4 := aF.at 4 rfl
        have hu5 := Upd.at5 wr (w.heap.size + 1) (.int .u8 xk) (.int .u64 xn) (.string xs) (.slice xka xks.length xkc) (.slice xla xl.length xlc)
        refine bodyPost_ret (by simp [results, Tryd.results20, go_sem, k0, k1, k2, k3, k4]; rfl) rfl ?_
        rw [hfi.out]
        exact ⟨_, _, _, _, _, _, _, _, _, rfl, (by rw [hxh.out]; rfl), (by rw [← hxh.out]; exact hRkh.out.upd hu5 (fun i hi e => by omega)), hB03.trans (hu5.below hB03.size (fun i e => by omega)), fun h => absurd h (by simp)⟩
    · obtain rfl : k = tks.length := by omega
      have hfi := Lib.hid (show V.find key (VT.mk 168 tn ts (.slice tka tks.length tkc) (.slice tla tl.length tlc) tks tl).v = none by have h9 := hno.out; rw [List.take_length] at h9; rw [find_idx rfl hcxh.out, h9]; rfl)
      have cc := hC3.out
      have c0 := cc.at 0 rfl; have z0 := cc.frozen 0; have c1 := cc.at 1 rfl; have z1 := cc.frozen 1; have c2 := cc.at 2 rfl; have z2 := cc.frozen 2; have c3 := cc.at 3 rfl; have z3 := cc.frozen 3; have c4 := cc.at 4 rfl; have z4 := cc.frozen 4
      clear cc
      go_wp2
      have aF := hC3.out.fresh5 (.int .u8 0) (.int .u64 0) (.string ⟨#[]⟩) (.slice none 0 0) (.slice none 0 0)
      have k0 := aF.at 0 rfl; have k1 := aF.at 1 rfl; have k2 := aF.at 2 rfl; have k3 := aF.at 3 rfl; have k4 := aF.at 4 rfl
      have hu5 := Upd.at5 wr (w.heap.size + 1) (.int .u8 0) (.int .u64 0) (.string ⟨#[]⟩) (.slice none 0 0) (.slice none 0 0)
      refine bodyPost_ret (by simp [results, Tryd.results20, go_sem, k0, k1, k2, k3, k4]; rfl) rfl ?_
      have hno : V.find key (VT.mk 168 tn ts (.slice tka tks.length tkc) (.slice tla tl.length tlc) tks tl).v = none := hfi.out
      rw [hno]
      exact ⟨0, 0, ⟨#[]⟩, none, 0, none, 0, [], [], rfl, VT.zero_v, VT.zero_rd, hB03.trans (hu5.below hB03.size (fun i e => by omega)), fun _ => Own.nil⟩
end Go.Proofs.YtokemjpobfjiaaaDoor

/- ValueSame: the law's walk. Conditions: utf8's tables are laid. Written by gen_vsame.py. -/
namespace Go.Proofs.YtokemjpobfjiaaaDoor
set_option linter.unusedSimpArgs false
set_option linter.unusedVariables false
open Go.RowKit
theorem dsame_no {t u : VT} {P P2 : Nat → Prop} {w : World} (h : Rd P w t) (k : Rd P2 w u) (e : t.v ≠ u.v) : Calls Tryd.prog 15 #[t.arg, u.arg] w fun r w' => r = .returned (.bool false) ∧ Below w.heap.size w w' :=
  (dsame_any t u P P2 w h k).mono fun r w' ⟨⟨b, hr, hb⟩, hB⟩ => ⟨by rw [hr]; cases b with | false => rfl | true => exact absurd (hb.1 rfl) e, hB⟩
set_option maxRecDepth 100000 in
set_option maxHeartbeats 12800000 in
theorem valueSame_law (w : World) {x y : VT} (hX : Rd (fun i => i < w.heap.size) w x) (hY : Rd (fun i => i < w.heap.size) w y) (key : ByteArray) (hT : Tb w) : Calls Tryd.prog 8 #[x.arg, y.arg, .string key] w fun e w' => e = .returned (.bool true) ∧ Below w.heap.size w w' := by
  obtain ⟨tk, tn, ts, tka, tkc, tla, tlc, tks, tl, rfl, -, -, htk, htl⟩ := hX.open
  obtain ⟨uk, un, us, uka, ukc, ula, ulc, uks, ul, rfl, -, -, huk, hul⟩ := hY.open
  rw [VT.arg_mk, VT.arg_mk]
  have hT0 : Below w.heap.size w ((w.alloc (.cells #[.int .u8 tk, .int .u64 tn, .string ts, .slice tka tks.length tkc, .slice tla tl.length tlc] 27)).alloc (.cells #[.int .u8 uk, .int .u64 un, .string us, .slice uka uks.length ukc, .slice ula ul.length ulc] 27)) := ((Below.refl _ _).alloc (Nat.le_refl _) _).alloc (by simp) _
  have R0 := hX.pure hT0; have Q0 := hY.pure hT0
  have A0 := (Blk.new w [.int .u8 tk, .int .u64 tn, .string ts, .slice tka tks.length tkc, .slice tla tl.length tlc] 27).alloc (.cells #[.int .u8 uk, .int .u64 un, .string us, .slice uka uks.length ukc, .slice ula ul.length ulc] 27)
  have B0 := Blk.newK (w.alloc (.cells #[.int .u8 tk, .int .u64 tn, .string ts, .slice tka tks.length tkc, .slice tla tl.length tlc] 27)) [.int .u8 uk, .int .u64 un, .string us, .slice uka uks.length ukc, .slice ula ul.length ulc] 27 (w.heap.size + 1) (by simp)
  obtain ⟨vx, hvx⟩ : ∃ vx, VT.v (.mk tk tn ts (.slice tka tks.length tkc) (.slice tla tl.length tlc) tks tl) = vx := ⟨_, rfl⟩
  obtain ⟨vy, hvy⟩ : ∃ vy, VT.v (.mk uk un us (.slice uka uks.length ukc) (.slice ula ul.length ulc) uks ul) = vy := ⟨_, rfl⟩
  have hvh := Lib.hid (show VT.v (.mk tk tn ts (.slice tka tks.length tkc) (.slice tla tl.length tlc) tks tl) = vx ∧ VT.v (.mk uk un us (.slice uka uks.length ukc) (.slice ula ul.length ulc) uks ul) = vy from ⟨hvx, hvy⟩)
  clear hvx hvy htk htl huk hul hX hY
  have a0 := A0.at 0 rfl; have a1 := A0.at 1 rfl; have a2 := A0.at 2 rfl; have a3 := A0.at 3 rfl; have a4 := A0.at 4 rfl
  have b0 := B0.at 0 rfl; have b1 := B0.at 1 rfl; have b2 := B0.at 2 rfl; have b3 := B0.at 3 rfl; have b4 := B0.at 4 rfl
  go_enter Tryd.func8, Tryd.ntmps8
  go_wp2_with fail
  have s1 := dSmall_any _ _ _ R0
  rw [VT.arg_mk] at s1
  refine s1.mono ?_
  rintro e w1 ⟨⟨sb, rfl, hsm⟩, hB1⟩
  have R1 := R0.pure hB1; have Q1 := Q0.pure hB1; have A1 := A0.pure hB1; have B1 := B0.pure hB1; have hT1 := hT0.trans (hB1.mono hT0.size)
  rw [hvh.out.1] at hsm
  clear s1 a0 a1 a2 a3 a4 b0 b1 b2 b3 b4
  have a0 := A1.at 0 rfl; have a1 := A1.at 1 rfl; have a2 := A1.at 2 rfl; have a3 := A1.at 3 rfl; have a4 := A1.at 4 rfl
  have b0 := B1.at 0 rfl; have b1 := B1.at 1 rfl; have b2 := B1.at 2 rfl; have b3 := B1.at 3 rfl; have b4 := B1.at 4 rfl
  cases sb
  · clear hsm
    go_wp2_with (go_at_call 10; (with_reducible refine (head_any _ (hT.pure hT1)).mono ?_); rintro e w9 ⟨rfl, hB9⟩; have hF := hT1.trans (hB9.mono hT1.size))
    go_ret
    exact ⟨rfl, hF⟩
  have hfit := Lib.hid (fit_small (hsm rfl))
  have hkf := Lib.hid (hsm rfl).2
  clear hsm
  go_wp2_with fail
  have s1 := dSmall_any _ _ _ Q1
  rw [VT.arg_mk] at s1
  refine s1.mono ?_
  rintro e w2 ⟨⟨sb, rfl, -⟩, hB2⟩
  have R2 := R1.pure hB2; have Q2 := Q1.pure hB2; have A2 := A1.pure hB2; have B2 := B1.pure hB2; have hT2 := hT1.trans (hB2.mono hT1.size)
  clear s1 a0 a1 a2 a3 a4 b0 b1 b2 b3 b4
  have a0 := A2.at 0 rfl; have a1 := A2.at 1 rfl; have a2 := A2.at 2 rfl; have a3 := A2.at 3 rfl; have a4 := A2.at 4 rfl
  have b0 := B2.at 0 rfl; have b1 := B2.at 1 rfl; have b2 := B2.at 2 rfl; have b3 := B2.at 3 rfl; have b4 := B2.at 4 rfl
  cases sb
  · go_wp2_with (go_at_call 10; (with_reducible refine (head_any _ (hT.pure hT2)).mono ?_); rintro e w9 ⟨rfl, hB9⟩; have hF := hT2.trans (hB9.mono hT2.size))
    go_ret
    exact ⟨rfl, hF⟩
  obtain ⟨fo, hfo⟩ : ∃ fo, V.find key vx = fo := ⟨_, rfl⟩
  have f1 := fun (P : Nat → Prop) (u : World) (t : VT) (ht : t.v = vx) (hR : Rd P u t) (hT : Tb u) => show Calls Tryd.prog 19 #[t.arg, .string key] u (FindPost (fun i => u.heap.size ≤ i) true u fo) by
    have h := pfind_any t key P u hR (by rw [ht]; exact hkf.out) hT
    rw [ht, hfo] at h; exact h
  have f2 := fun (P : Nat → Prop) (u : World) (t : VT) (ht : t.v = vx) (hR : Rd P u t) => show Calls Tryd.prog 20 #[t.arg, .string key] u (FindPost (· < u.heap.size) false u fo) by
    have h := dfind_any t key P u hR
    rw [ht, hfo] at h; exact h
  have f1h := Lib.hid f1; have f2h := Lib.hid f2
  clear f1 f2 hfo
  go_upto_region 6 with (first | (go_at_call 11; refine (dcopy_any _ _ _ R2 (by rw [hvh.out.1]; exact hfit.out)).mono ?_; rintro e w3 ⟨t3, he, htv, htR, hB3⟩; have R3 := R2.pure hB3; have Q3 := Q2.pure hB3; have A3 := A2.pure hB3; have B3 := B2.pure hB3; have hT3 := hT2.trans (hB3.mono hT2.size); obtain ⟨ck, cn, cs, cka, ckc, cla, clc, cks, cl, rfl, -⟩ := htR.open; rw [VT.arg_mk] at he; subst he; rw [hvh.out.1] at htv; have hcv := Lib.hid htv; clear htv; have hD3 := (Below.refl w3.heap.size w3).alloc (Nat.le_refl _) (.cells #[.int .u8 ck, .int .u64 cn, .string cs, .slice cka cks.length ckc, .slice cla cl.length clc] 27); have R4 := R3.pure hD3; have Q4 := Q3.pure hD3; have A4 := A3.pure hD3; have B4 := B3.pure hD3; have C4 := htR.here.pure hD3; have D4 := Blk.new w3 [.int .u8 ck, .int .u64 cn, .string cs, .slice cka cks.length ckc, .slice cla cl.length clc] 27; have hT4 := hT3.trans (hD3.mono hT3.size); clear a0 a1 a2 a3 a4 b0 b1 b2 b3 b4; have a0 := A4.at 0 rfl; have a1 := A4.at 1 rfl; have a2 := A4.at 2 rfl; have a3 := A4.at 3 rfl; have a4 := A4.at 4 rfl; have d0 := D4.at 0 rfl; have d1 := D4.at 1 rfl; have d2 := D4.at 2 rfl; have d3 := D4.at 3 rfl; have d4 := D4.at 4 rfl) | (go_at_call 19; refine (f1h.out _ _ (.mk ck cn cs (.slice cka cks.length ckc) (.slice cla cl.length clc) cks cl) hcv.out C4 (hT.pure hT4)).mono ?_; rintro e w5 ⟨zk, zn, zs, zka, zkc, zla, zlc, zks, zl, rfl, hzv, hzR, hB5, hzO⟩; have hzvh := Lib.hid hzv; clear hzv; have R5 := R4.pure hB5; have Q5 := Q4.pure hB5; have A5 := A4.pure hB5; have B5 := B4.pure hB5; have C5 := C4.pure hB5; have D5 := D4.pure hB5; have hT5 := hT4.trans (hB5.mono hT4.size); have hD5 := (Below.refl w5.heap.size w5).alloc (Nat.le_refl _) (.cells #[.int .u8 zk, .int .u64 zn, .string zs, .slice zka zks.length zkc, .slice zla zl.length zlc] 27); have R6 := R5.pure hD5; have Q6 := Q5.pure hD5; have A6 := A5.pure hD5; have B6 := B5.pure hD5; have C6 := C5.pure hD5; have D6 := D5.pure hD5; have X6 := hzR.pure hD5; have Y6 := Blk.new w5 [.int .u8 zk, .int .u64 zn, .string zs, .slice zka zks.length zkc, .slice zla zl.length zlc] 27; have O6 := (hzO rfl).pure hD5; have hOl := Lib.hid (fun (i : Nat) (hi : (Value.slice zla zl.length zlc).ownBlock = some i) => (show w3.heap.size < i ∧ i < w5.heap.size from ⟨by have := (hzO rfl).ge hi; simp at this; omega, (hzO rfl).lt hi⟩)); have hTs := Lib.hid hT3.size; clear hzO hzR; have hT6 := hT5.trans (hD5.mono hT5.size); clear a0 a1 a2 a3 a4 d0 d1 d2 d3 d4; have a0 := A6.at 0 rfl; have a1 := A6.at 1 rfl; have a2 := A6.at 2 rfl; have a3 := A6.at 3 rfl; have a4 := A6.at 4 rfl) | (go_at_call 20; refine (f2h.out _ _ (.mk tk tn ts (.slice tka tks.length tkc) (.slice tla tl.length tlc) tks tl) hvh.out.1 R6).mono ?_; rintro e w7 ⟨rk, rn, rs, rka, rkc, rla, rlc, rks, rl, rfl, hrv, hrR, hB7, -⟩; have hrvh := Lib.hid hrv; clear hrv; have R7 := R6.pure hB7; have Q7 := Q6.pure hB7; have A7 := A6.pure hB7; have B7 := B6.pure hB7; have C7 := C6.pure hB7; have D7 := D6.pure hB7; have X7 := X6.pure hB7; have Y7 := Y6.pure hB7; have O7 := O6.pure hB7; have hT7 := hT6.trans (hB7.mono hT6.size); have hD7 := (Below.refl w7.heap.size w7).alloc (Nat.le_refl _) (.cells #[.int .u8 rk, .int .u64 rn, .string rs, .slice rka rks.length rkc, .slice rla rl.length rlc] 27); have R8 := R7.pure hD7; have Q8 := Q7.pure hD7; have A8 := A7.pure hD7; have B8 := B7.pure hD7; have C8 := C7.pure hD7; have D8 := D7.pure hD7; have X8 := X7.pure hD7; have Y8 := Y7.pure hD7; have O8 := O7.pure hD7; have Z8 := hrR.pure hD7; have G8 := Blk.new w7 [.int .u8 rk, .int .u64 rn, .string rs, .slice rka rks.length rkc, .slice rla rl.length rlc] 27; have hT8 := hT7.trans (hD7.mono hT7.size); clear a0 a1 a2 a3 a4))
  have hall := Lib.hid (show ∀ u, Below (w7.alloc (.cells #[.int .u8 rk, .int .u64 rn, .string rs, .slice rka rks.length rkc, .slice rla rl.length rlc] 27)).heap.size (w7.alloc (.cells #[.int .u8 rk, .int .u64 rn, .string rs, .slice rka rks.length rkc, .slice rla rl.length rlc] 27)) u → Blk u _ _ ∧ Blk u _ _ ∧ Blk u _ _ ∧ Blk u _ _ ∧ Blk u _ _ from fun u h => ⟨A8.pure h, B8.pure h, D8.pure h, Y8.pure h, G8.pure h⟩)
  have hS35 := Lib.hid (show w3.heap.size < w5.heap.size by have := hB5.size; simp at this; omega)
  generalize World.alloc w7 _ = W8 at *
  by_cases hv : vx = vy
  · have hvq := Lib.hid hv
    clear hv
    have hb := below_refl_dr W8
    refine wp_region_held_drew (S := fun u => Below W8.heap.size W8 u) (by kernel_rfl) hb (fun hHeld => ?_)
    refine takeY 0 36 rfl rfl (v := ?_) ?_ hHeld ?_
    rotate_left 1
    · (intro u hSw; (try dsimp only at hSw); have q := (hall.out u hSw).2.2.1; have m0 := q.at 0 rfl; have m1 := q.at 1 rfl; have m2 := q.at 2 rfl; have m3 := q.at 3 rfl; have m4 := q.at 4 rfl; clear hSw; go_simp; (try with_reducible rfl))
    try simp only [Act.put, lsT, lsZ, lsS]
    refine takeY 1 37 rfl rfl (v := ?_) ?_ hHeld ?_
    rotate_left 1
    · (intro u hSw; (try dsimp only at hSw); have q := (hall.out u hSw).2.1; have m0 := q.at 0 rfl; have m1 := q.at 1 rfl; have m2 := q.at 2 rfl; have m3 := q.at 3 rfl; have m4 := q.at 4 rfl; clear hSw; go_simp; (try with_reducible rfl))
    try simp only [Act.put, lsT, lsZ, lsS]
    refine takeY 3 39 rfl rfl (v := ?_) ?_ hHeld ?_
    rotate_left 1
    · (intro u hSw; (try dsimp only at hSw); have q := (hall.out u hSw).1; have m0 := q.at 0 rfl; have m1 := q.at 1 rfl; have m2 := q.at 2 rfl; have m3 := q.at 3 rfl; have m4 := q.at 4 rfl; clear hSw; go_simp; (try with_reducible rfl))
    try simp only [Act.put, lsT, lsZ, lsS]
    refine takeY 4 40 rfl rfl (v := ?_) ?_ hHeld ?_
    rotate_left 1
    · (intro u hSw; (try dsimp only at hSw); have q := (hall.out u hSw).2.1; have m0 := q.at 0 rfl; have m1 := q.at 1 rfl; have m2 := q.at 2 rfl; have m3 := q.at 3 rfl; have m4 := q.at 4 rfl; clear hSw; go_simp; (try with_reducible rfl))
    try simp only [Act.put, lsT, lsZ, lsS]
    refine wpAnyH_ready (rs := [2]) (by kernel_rfl) (by simp) ?_
    refine AllReadyH.cons rfl (fun K hK => ?_) AllReadyH.nil
    go_simp
    go_at_call 18
    refine (psame_yes (C8.pure hb) (Q8.pure hb) (by rw [hcv.out, hvh.out.2, hvq.out])).mono ?_
    rintro e wn ⟨rfl, hBn⟩
    have hb := hb.trans (hBn.mono hb.size)
    refine hK.out _ _ hb (fun hHeld => ?_)
    clear hK K
    try simp only [Act.put, lsT, lsZ, lsS]
    refine wpAnyH_ready (rs := [5]) (by kernel_rfl) (by simp) ?_
    refine AllReadyH.cons rfl (fun K hK => ?_) AllReadyH.nil
    go_simp
    go_at_call 15
    refine (dsame_yes (R8.pure hb) (Q8.pure hb) (by rw [hvh.out.1, hvh.out.2, hvq.out])).mono ?_
    rintro e wn ⟨rfl, hBn⟩
    have hb := hb.trans (hBn.mono hb.size)
    refine hK.out _ _ hb (fun hHeld => ?_)
    clear hK K
    try simp only [Act.put, lsT, lsZ, lsS]
    refine takeY 6 42 rfl rfl (v := ?_) ?_ hHeld ?_
    rotate_left 1
    · (intro u hSw; (try dsimp only at hSw); clear hSw; go_simp; (try with_reducible rfl))
    try simp only [Act.put, lsT, lsZ, lsS]
    refine takeY 7 43 rfl rfl (v := ?_) ?_ hHeld ?_
    rotate_left 1
    · (intro u hSw; (try dsimp only at hSw); clear hSw; go_simp; (try with_reducible rfl))
    try simp only [Act.put, lsT, lsZ, lsS]
    refine takeY 8 44 rfl rfl (v := ?_) ?_ hHeld ?_
    rotate_left 1
    · (intro u hSw; (try dsimp only at hSw); have q := (hall.out u hSw).1; have m0 := q.at 0 rfl; have m1 := q.at 1 rfl; have m2 := q.at 2 rfl; have m3 := q.at 3 rfl; have m4 := q.at 4 rfl; clear hSw; go_simp; (try with_reducible rfl))
    try simp only [Act.put, lsT, lsZ, lsS]
    refine takeY 9 45 rfl rfl (v := ?_) ?_ hHeld ?_
    rotate_left 1
    · (intro u hSw; (try dsimp only at hSw); have q := (hall.out u hSw).2.2.1; have m0 := q.at 0 rfl; have m1 := q.at 1 rfl; have m2 := q.at 2 rfl; have m3 := q.at 3 rfl; have m4 := q.at 4 rfl; clear hSw; go_simp; (try with_reducible rfl))
    try simp only [Act.put, lsT, lsZ, lsS]
    refine wpAnyH_ready (rs := [10]) (by kernel_rfl) (by simp) ?_
    refine AllReadyH.cons rfl (fun K hK => ?_) AllReadyH.nil
    go_simp
    go_at_call 18
    refine (psame_yes (R8.pure hb) (C8.pure hb) (by rw [hcv.out, hvh.out.1])).mono ?_
    rintro e wn ⟨rfl, hBn⟩
    have hb := hb.trans (hBn.mono hb.size)
    refine hK.out _ _ hb (fun hHeld => ?_)
    clear hK K
    try simp only [Act.put, lsT, lsZ, lsS]
    refine takeY 11 47 rfl rfl (v := ?_) ?_ hHeld ?_
    rotate_left 1
    · (intro u hSw; (try dsimp only at hSw); clear hSw; go_simp; (try with_reducible rfl))
    try simp only [Act.put, lsT, lsZ, lsS]
    refine takeY 12 48 rfl rfl (v := ?_) ?_ hHeld ?_
    rotate_left 1
    · (intro u hSw; (try dsimp only at hSw); clear hSw; go_simp; (try with_reducible rfl))
    try simp only [Act.put, lsT, lsZ, lsS]
    refine takeY 13 49 rfl rfl (v := ?_) ?_ hHeld ?_
    rotate_left 1
    · (intro u hSw; (try dsimp only at hSw); clear hSw; go_simp; (try with_reducible rfl))
    try simp only [Act.put, lsT, lsZ, lsS]
    refine takeY 14 50 rfl rfl (v := ?_) ?_ hHeld ?_
    rotate_left 1
    · (intro u hSw; (try dsimp only at hSw); clear hSw; go_simp; (try with_reducible rfl))
    try simp only [Act.put, lsT, lsZ, lsS]
    refine takeY 15 51 rfl rfl (v := ?_) ?_ hHeld ?_
    rotate_left 1
    · (intro u hSw; (try dsimp only at hSw); clear hSw; go_simp; (try with_reducible rfl))
    try simp only [Act.put, lsT, lsZ, lsS]
    refine takeY 16 52 rfl rfl (v := ?_) ?_ hHeld ?_
    rotate_left 1
    · (intro u hSw; (try dsimp only at hSw); clear hSw; go_simp; (try with_reducible rfl))
    try simp only [Act.put, lsT, lsZ, lsS]
    refine takeY 17 53 rfl rfl (v := ?_) ?_ hHeld ?_
    rotate_left 1
    · (intro u hSw; (try dsimp only at hSw); clear hSw; go_simp; (try with_reducible rfl))
    try simp only [Act.put, lsT, lsZ, lsS]
    refine takeY 18 54 rfl rfl (v := ?_) ?_ hHeld ?_
    rotate_left 1
    · (intro u hSw; (try dsimp only at hSw); clear hSw; go_simp; (try with_reducible rfl))
    try simp only [Act.put, lsT, lsZ, lsS]
    refine takeY 19 55 rfl rfl (v := ?_) ?_ hHeld ?_
    rotate_left 1
    · (intro u hSw; (try dsimp only at hSw); have q := (hall.out u hSw).2.2.2.1; have m0 := q.at 0 rfl; have m1 := q.at 1 rfl; have m2 := q.at 2 rfl; have m3 := q.at 3 rfl; have m4 := q.at 4 rfl; clear hSw; go_simp; (try with_reducible rfl))
    try simp only [Act.put, lsT, lsZ, lsS]
    refine takeY 20 56 rfl rfl (v := ?_) ?_ hHeld ?_
    rotate_left 1
    · (intro u hSw; (try dsimp only at hSw); have q := (hall.out u hSw).2.2.2.2; have m0 := q.at 0 rfl; have m1 := q.at 1 rfl; have m2 := q.at 2 rfl; have m3 := q.at 3 rfl; have m4 := q.at 4 rfl; clear hSw; go_simp; (try with_reducible rfl))
    try simp only [Act.put, lsT, lsZ, lsS]
    refine wpAnyH_ready (rs := [21]) (by kernel_rfl) (by simp) ?_
    refine AllReadyH.cons rfl (fun K hK => ?_) AllReadyH.nil
    go_simp
    go_at_call 15
    refine (dsame_yes (X8.pure hb) (Z8.pure hb) (by rw [hzvh.out, hrvh.out])).mono ?_
    rintro e wn ⟨rfl, hBn⟩
    have hb := hb.trans (hBn.mono hb.size)
    refine hK.out _ _ hb (fun hHeld => ?_)
    clear hK K
    try simp only [Act.put, lsT, lsZ, lsS]
    refine takeY 22 58 rfl rfl (v := ?_) ?_ hHeld ?_
    rotate_left 1
    · (intro u hSw; (try dsimp only at hSw); clear hSw; go_simp; (try with_reducible rfl))
    try simp only [Act.put, lsT, lsZ, lsS]
    refine takeY 23 59 rfl rfl (v := ?_) ?_ hHeld ?_
    rotate_left 1
    · (intro u hSw; (try dsimp only at hSw); clear hSw; go_simp; (try with_reducible rfl))
    try simp only [Act.put, lsT, lsZ, lsS]
    refine wpAnyH_done (by kernel_rfl) ?_ _
    have O9 := Lib.hid ((O8.pure hb).rebase (b' := 0) (fun _ _ => Nat.zero_le _)); have C9 := Lib.hid (C8.pure hb); have A9 := Lib.hid (A8.pure hb); have D9 := Lib.hid (D8.pure hb); have Y9 := Lib.hid (Y8.pure hb); have R9 := Lib.hid (R8.pure hb)
    have hT9 := hT8.trans (hb.mono hT8.size)
    clear hall A0 A1 A2 A3 A4 A5 A6 A7 A8 B0 B1 B2 B3 B4 B5 B6 B7 B8 C4 C5 C6 C7 C8 D4 D5 D6 D7 D8 X6 X7 X8 Y6 Y7 Y8 O6 O7 O8 R0 R1 R2 R3 R4 R5 R6 R7 R8 Q0 Q1 Q2 Q3 Q4 Q5 Q6 Q7 Q8 Z8 G8
    go_wp2_with fail
    have hzl := Lib.hid (show (zl.length : Int) ≤ 9223372036854775807 by
      obtain ⟨_, _, _, h⟩ := (O9.out.slc vEnc_len).len
      unfold maxLen at h; omega)
    go_loopw [12] (fun s12 wr => ∃ (k : Nat) (L : List VT), k ≤ zl.length ∧ s12 = .int .i64 k ∧ Hid (L.length = zl.length ∧ Own 0 27 5 vEnc wr (.slice zla zl.length zlc) L ∧ Upd (fun i => (Value.slice zla zl.length zlc).ownBlock = some i) wn wr)) (fun s12 _ => zl.length - (intOf s12).toNat)
    case atStart => exact ⟨0, zl, by omega, rfl, Lib.hid ⟨rfl, O9.out, Upd.refl _ _⟩⟩
    case round =>
      obtain ⟨k, L, hk, rfl, hS⟩ := hrel
      have hY := Y9.out.upd hS.out.2.2 (fun e => by have := (hOl.out _ e).2; omega)
      have y4 := hY.at 4 rfl; have y4d := hY.drew.at 4 rfl
      by_cases hlt : k < zl.length
      · have h1 : (k : Int) < (zl.length : Int) := by omega
        have hkw : (k : Int) < 9223372036854775807 := by have := hzl.out; omega
        have hkL : k < L.length := by rw [hS.out.1]; exact hlt
        obtain ⟨g, rfl, -⟩ : ∃ g, zla = some ⟨g, 0, none⟩ ∧ 0 ≤ g := own_at' (by have h := hS.out.2.1; rw [← hS.out.1] at h; exact h) hkL
        have hO := hS.out.2.1
        have hOh := Lib.hid hO
        obtain ⟨xn, hxn⟩ : ∃ xn, L[k].n = xn := ⟨_, rfl⟩
        have n0 := hO.cell vEnc_len k hkL 1 (.int .u64 xn) (by rw [← hxn]; rfl)
        have n1 := hO.drew.cell vEnc_len k hkL 1 (.int .u64 xn) (by rw [← hxn]; rfl)
        have nf := hO.frozen (k * 5 + 1); have nfd := hO.drew.frozen (k * 5 + 1)
        clear hO hxn
        go_wp2
        go_region
        go_wp2
        have hO2 := (hOh.out.set vEnc_len k hkL 1 (.int .u64 (IntKind.u64.wrap (xn + 1))) (.mk L[k].k (IntKind.u64.wrap (xn + 1)) L[k].s L[k].kv L[k].lv L[k].ks L[k].l) (by omega) rfl).drew
        have hU2 := (hS.out.2.2.trans (Upd.set (S := fun i => i = g) (w := wr) (p := ⟨g, k * 5 + 1, none⟩) rfl (.int .u64 (IntKind.u64.wrap (xn + 1)))) (fun i e _ => by rw [e]; rfl)).drew
        refine ⟨⟨k + 1, _, by omega, by go_num, Lib.hid ⟨by rw [List.length_set]; exact hS.out.1, hO2, hU2⟩⟩, ?_⟩
        simp [intOf]; omega
      · obtain rfl : k = zl.length := by omega
        have A10 := A9.out.upd hS.out.2.2 (fun e => by have h1 := (hOl.out _ e).1; have h2 := hTs.out; omega)
        have D10 := D9.out.upd hS.out.2.2 (fun e => by have h1 := (hOl.out _ e).1; omega)
        have C10 := C9.out.upd hS.out.2.2 (fun b hb e => by have h1 := (hOl.out _ e).1; omega)
        have R10 := R9.out.upd hS.out.2.2 (fun b hb e => by have h1 := (hOl.out _ e).1; have h2 := hTs.out; omega)
        have hT10 := hT9.trans (hS.out.2.2.below hT9.size (fun i e => by have h1 := (hOl.out _ e).1; have h2 := hTs.out; omega))
        have p0 := A10.at 0 rfl; have p1 := A10.at 1 rfl; have p2 := A10.at 2 rfl; have p3 := A10.at 3 rfl; have p4 := A10.at 4 rfl; have q0 := D10.at 0 rfl; have q1 := D10.at 1 rfl; have q2 := D10.at 2 rfl; have q3 := D10.at 3 rfl; have q4 := D10.at 4 rfl
        go_wp2_with (first | (go_at_call 15; refine (dsame_yes C10 R10 (by rw [hcv.out, hvh.out.1])).mono ?_; rintro e wm ⟨rfl, hBm⟩; have hT11 := hT10.trans (hBm.mono hT10.size)) | (go_at_call 10; (with_reducible refine (head_any _ (hT.pure hT11)).mono ?_); rintro e w9 ⟨rfl, hB9⟩; have hF := hT11.trans (hB9.mono hT11.size)))
        go_ret
        exact ⟨rfl, hF⟩
  · have hvq := Lib.hid hv
    clear hv
    have hb := below_refl_dr W8
    refine wp_region_held_drew (S := fun u => Below W8.heap.size W8 u) (by kernel_rfl) hb (fun hHeld => ?_)
    refine takeY 0 36 rfl rfl (v := ?_) ?_ hHeld ?_
    rotate_left 1
    · (intro u hSw; (try dsimp only at hSw); have q := (hall.out u hSw).2.2.1; have m0 := q.at 0 rfl; have m1 := q.at 1 rfl; have m2 := q.at 2 rfl; have m3 := q.at 3 rfl; have m4 := q.at 4 rfl; clear hSw; go_simp; (try with_reducible rfl))
    try simp only [Act.put, lsT, lsZ, lsS]
    refine takeY 1 37 rfl rfl (v := ?_) ?_ hHeld ?_
    rotate_left 1
    · (intro u hSw; (try dsimp only at hSw); have q := (hall.out u hSw).2.1; have m0 := q.at 0 rfl; have m1 := q.at 1 rfl; have m2 := q.at 2 rfl; have m3 := q.at 3 rfl; have m4 := q.at 4 rfl; clear hSw; go_simp; (try with_reducible rfl))
    try simp only [Act.put, lsT, lsZ, lsS]
    refine takeY 3 39 rfl rfl (v := ?_) ?_ hHeld ?_
    rotate_left 1
    · (intro u hSw; (try dsimp only at hSw); have q := (hall.out u hSw).1; have m0 := q.at 0 rfl; have m1 := q.at 1 rfl; have m2 := q.at 2 rfl; have m3 := q.at 3 rfl; have m4 := q.at 4 rfl; clear hSw; go_simp; (try with_reducible rfl))
    try simp only [Act.put, lsT, lsZ, lsS]
    refine takeY 4 40 rfl rfl (v := ?_) ?_ hHeld ?_
    rotate_left 1
    · (intro u hSw; (try dsimp only at hSw); have q := (hall.out u hSw).2.1; have m0 := q.at 0 rfl; have m1 := q.at 1 rfl; have m2 := q.at 2 rfl; have m3 := q.at 3 rfl; have m4 := q.at 4 rfl; clear hSw; go_simp; (try with_reducible rfl))
    try simp only [Act.put, lsT, lsZ, lsS]
    refine wpAnyH_ready (rs := [2]) (by kernel_rfl) (by simp) ?_
    refine AllReadyH.cons rfl (fun K hK => ?_) AllReadyH.nil
    go_simp
    go_at_call 18
    refine (psame_no (C8.pure hb) (Q8.pure hb) (by rw [hcv.out, hvh.out.2]; exact hvq.out)).mono ?_
    rintro e wn ⟨rfl, hBn⟩
    have hb := hb.trans (hBn.mono hb.size)
    refine hK.out _ _ hb (fun hHeld => ?_)
    clear hK K
    try simp only [Act.put, lsT, lsZ, lsS]
    refine wpAnyH_ready (rs := [5]) (by kernel_rfl) (by simp) ?_
    refine AllReadyH.cons rfl (fun K hK => ?_) AllReadyH.nil
    go_simp
    go_at_call 15
    refine (dsame_no (R8.pure hb) (Q8.pure hb) (by rw [hvh.out.1, hvh.out.2]; exact hvq.out)).mono ?_
    rintro e wn ⟨rfl, hBn⟩
    have hb := hb.trans (hBn.mono hb.size)
    refine hK.out _ _ hb (fun hHeld => ?_)
    clear hK K
    try simp only [Act.put, lsT, lsZ, lsS]
    refine takeY 6 42 rfl rfl (v := ?_) ?_ hHeld ?_
    rotate_left 1
    · (intro u hSw; (try dsimp only at hSw); clear hSw; go_simp; (try with_reducible rfl))
    try simp only [Act.put, lsT, lsZ, lsS]
    refine takeY 7 43 rfl rfl (v := ?_) ?_ hHeld ?_
    rotate_left 1
    · (intro u hSw; (try dsimp only at hSw); clear hSw; go_simp; (try with_reducible rfl))
    try simp only [Act.put, lsT, lsZ, lsS]
    refine takeY 8 44 rfl rfl (v := ?_) ?_ hHeld ?_
    rotate_left 1
    · (intro u hSw; (try dsimp only at hSw); have q := (hall.out u hSw).1; have m0 := q.at 0 rfl; have m1 := q.at 1 rfl; have m2 := q.at 2 rfl; have m3 := q.at 3 rfl; have m4 := q.at 4 rfl; clear hSw; go_simp; (try with_reducible rfl))
    try simp only [Act.put, lsT, lsZ, lsS]
    refine takeY 9 45 rfl rfl (v := ?_) ?_ hHeld ?_
    rotate_left 1
    · (intro u hSw; (try dsimp only at hSw); have q := (hall.out u hSw).2.2.1; have m0 := q.at 0 rfl; have m1 := q.at 1 rfl; have m2 := q.at 2 rfl; have m3 := q.at 3 rfl; have m4 := q.at 4 rfl; clear hSw; go_simp; (try with_reducible rfl))
    try simp only [Act.put, lsT, lsZ, lsS]
    refine wpAnyH_ready (rs := [10]) (by kernel_rfl) (by simp) ?_
    refine AllReadyH.cons rfl (fun K hK => ?_) AllReadyH.nil
    go_simp
    go_at_call 18
    refine (psame_yes (R8.pure hb) (C8.pure hb) (by rw [hcv.out, hvh.out.1])).mono ?_
    rintro e wn ⟨rfl, hBn⟩
    have hb := hb.trans (hBn.mono hb.size)
    refine hK.out _ _ hb (fun hHeld => ?_)
    clear hK K
    try simp only [Act.put, lsT, lsZ, lsS]
    refine takeY 11 47 rfl rfl (v := ?_) ?_ hHeld ?_
    rotate_left 1
    · (intro u hSw; (try dsimp only at hSw); clear hSw; go_simp; (try with_reducible rfl))
    try simp only [Act.put, lsT, lsZ, lsS]
    refine takeY 12 48 rfl rfl (v := ?_) ?_ hHeld ?_
    rotate_left 1
    · (intro u hSw; (try dsimp only at hSw); clear hSw; go_simp; (try with_reducible rfl))
    try simp only [Act.put, lsT, lsZ, lsS]
    refine takeY 13 49 rfl rfl (v := ?_) ?_ hHeld ?_
    rotate_left 1
    · (intro u hSw; (try dsimp only at hSw); clear hSw; go_simp; (try with_reducible rfl))
    try simp only [Act.put, lsT, lsZ, lsS]
    refine takeY 14 50 rfl rfl (v := ?_) ?_ hHeld ?_
    rotate_left 1
    · (intro u hSw; (try dsimp only at hSw); clear hSw; go_simp; (try with_reducible rfl))
    try simp only [Act.put, lsT, lsZ, lsS]
    refine takeY 15 51 rfl rfl (v := ?_) ?_ hHeld ?_
    rotate_left 1
    · (intro u hSw; (try dsimp only at hSw); clear hSw; go_simp; (try with_reducible rfl))
    try simp only [Act.put, lsT, lsZ, lsS]
    refine takeY 16 52 rfl rfl (v := ?_) ?_ hHeld ?_
    rotate_left 1
    · (intro u hSw; (try dsimp only at hSw); clear hSw; go_simp; (try with_reducible rfl))
    try simp only [Act.put, lsT, lsZ, lsS]
    refine takeY 17 53 rfl rfl (v := ?_) ?_ hHeld ?_
    rotate_left 1
    · (intro u hSw; (try dsimp only at hSw); clear hSw; go_simp; (try with_reducible rfl))
    try simp only [Act.put, lsT, lsZ, lsS]
    refine takeY 18 54 rfl rfl (v := ?_) ?_ hHeld ?_
    rotate_left 1
    · (intro u hSw; (try dsimp only at hSw); clear hSw; go_simp; (try with_reducible rfl))
    try simp only [Act.put, lsT, lsZ, lsS]
    refine takeY 19 55 rfl rfl (v := ?_) ?_ hHeld ?_
    rotate_left 1
    · (intro u hSw; (try dsimp only at hSw); have q := (hall.out u hSw).2.2.2.1; have m0 := q.at 0 rfl; have m1 := q.at 1 rfl; have m2 := q.at 2 rfl; have m3 := q.at 3 rfl; have m4 := q.at 4 rfl; clear hSw; go_simp; (try with_reducible rfl))
    try simp only [Act.put, lsT, lsZ, lsS]
    refine takeY 20 56 rfl rfl (v := ?_) ?_ hHeld ?_
    rotate_left 1
    · (intro u hSw; (try dsimp only at hSw); have q := (hall.out u hSw).2.2.2.2; have m0 := q.at 0 rfl; have m1 := q.at 1 rfl; have m2 := q.at 2 rfl; have m3 := q.at 3 rfl; have m4 := q.at 4 rfl; clear hSw; go_simp; (try with_reducible rfl))
    try simp only [Act.put, lsT, lsZ, lsS]
    refine wpAnyH_ready (rs := [21]) (by kernel_rfl) (by simp) ?_
    refine AllReadyH.cons rfl (fun K hK => ?_) AllReadyH.nil
    go_simp
    go_at_call 15
    refine (dsame_yes (X8.pure hb) (Z8.pure hb) (by rw [hzvh.out, hrvh.out])).mono ?_
    rintro e wn ⟨rfl, hBn⟩
    have hb := hb.trans (hBn.mono hb.size)
    refine hK.out _ _ hb (fun hHeld => ?_)
    clear hK K
    try simp only [Act.put, lsT, lsZ, lsS]
    refine takeY 22 58 rfl rfl (v := ?_) ?_ hHeld ?_
    rotate_left 1
    · (intro u hSw; (try dsimp only at hSw); clear hSw; go_simp; (try with_reducible rfl))
    try simp only [Act.put, lsT, lsZ, lsS]
    refine takeY 23 59 rfl rfl (v := ?_) ?_ hHeld ?_
    rotate_left 1
    · (intro u hSw; (try dsimp only at hSw); clear hSw; go_simp; (try with_reducible rfl))
    try simp only [Act.put, lsT, lsZ, lsS]
    refine wpAnyH_done (by kernel_rfl) ?_ _
    have O9 := Lib.hid ((O8.pure hb).rebase (b' := 0) (fun _ _ => Nat.zero_le _)); have C9 := Lib.hid (C8.pure hb); have A9 := Lib.hid (A8.pure hb); have D9 := Lib.hid (D8.pure hb); have Y9 := Lib.hid (Y8.pure hb); have R9 := Lib.hid (R8.pure hb)
    have hT9 := hT8.trans (hb.mono hT8.size)
    clear hall A0 A1 A2 A3 A4 A5 A6 A7 A8 B0 B1 B2 B3 B4 B5 B6 B7 B8 C4 C5 C6 C7 C8 D4 D5 D6 D7 D8 X6 X7 X8 Y6 Y7 Y8 O6 O7 O8 R0 R1 R2 R3 R4 R5 R6 R7 R8 Q0 Q1 Q2 Q3 Q4 Q5 Q6 Q7 Q8 Z8 G8
    go_wp2_with fail
    have hzl := Lib.hid (show (zl.length : Int) ≤ 9223372036854775807 by
      obtain ⟨_, _, _, h⟩ := (O9.out.slc vEnc_len).len
      unfold maxLen at h; omega)
    go_loopw [12] (fun s12 wr => ∃ (k : Nat) (L : List VT), k ≤ zl.length ∧ s12 = .int .i64 k ∧ Hid (L.length = zl.length ∧ Own 0 27 5 vEnc wr (.slice zla zl.length zlc) L ∧ Upd (fun i => (Value.slice zla zl.length zlc).ownBlock = some i) wn wr)) (fun s12 _ => zl.length - (intOf s12).toNat)
    case atStart => exact ⟨0, zl, by omega, rfl, Lib.hid ⟨rfl, O9.out, Upd.refl _ _⟩⟩
    case round =>
      obtain ⟨k, L, hk, rfl, hS⟩ := hrel
      have hY := Y9.out.upd hS.out.2.2 (fun e => by have := (hOl.out _ e).2; omega)
      have y4 := hY.at 4 rfl; have y4d := hY.drew.at 4 rfl
      by_cases hlt : k < zl.length
      · have h1 : (k : Int) < (zl.length : Int) := by omega
        have hkw : (k : Int) < 9223372036854775807 := by have := hzl.out; omega
        have hkL : k < L.length := by rw [hS.out.1]; exact hlt
        obtain ⟨g, rfl, -⟩ : ∃ g, zla = some ⟨g, 0, none⟩ ∧ 0 ≤ g := own_at' (by have h := hS.out.2.1; rw [← hS.out.1] at h; exact h) hkL
        have hO := hS.out.2.1
        have hOh := Lib.hid hO
        obtain ⟨xn, hxn⟩ : ∃ xn, L[k].n = xn := ⟨_, rfl⟩
        have n0 := hO.cell vEnc_len k hkL 1 (.int .u64 xn) (by rw [← hxn]; rfl)
        have n1 := hO.drew.cell vEnc_len k hkL 1 (.int .u64 xn) (by rw [← hxn]; rfl)
        have nf := hO.frozen (k * 5 + 1); have nfd := hO.drew.frozen (k * 5 + 1)
        clear hO hxn
        go_wp2
        go_region
        go_wp2
        have hO2 := (hOh.out.set vEnc_len k hkL 1 (.int .u64 (IntKind.u64.wrap (xn + 1))) (.mk L[k].k (IntKind.u64.wrap (xn + 1)) L[k].s L[k].kv L[k].lv L[k].ks L[k].l) (by omega) rfl).drew
        have hU2 := (hS.out.2.2.trans (Upd.set (S := fun i => i = g) (w := wr) (p := ⟨g, k * 5 + 1, none⟩) rfl (.int .u64 (IntKind.u64.wrap (xn + 1)))) (fun i e _ => by rw [e]; rfl)).drew
        refine ⟨⟨k + 1, _, by omega, by go_num, Lib.hid ⟨by rw [List.length_set]; exact hS.out.1, hO2, hU2⟩⟩, ?_⟩
        simp [intOf]; omega
      · obtain rfl : k = zl.length := by omega
        have A10 := A9.out.upd hS.out.2.2 (fun e => by have h1 := (hOl.out _ e).1; have h2 := hTs.out; omega)
        have D10 := D9.out.upd hS.out.2.2 (fun e => by have h1 := (hOl.out _ e).1; omega)
        have C10 := C9.out.upd hS.out.2.2 (fun b hb e => by have h1 := (hOl.out _ e).1; omega)
        have R10 := R9.out.upd hS.out.2.2 (fun b hb e => by have h1 := (hOl.out _ e).1; have h2 := hTs.out; omega)
        have hT10 := hT9.trans (hS.out.2.2.below hT9.size (fun i e => by have h1 := (hOl.out _ e).1; have h2 := hTs.out; omega))
        have p0 := A10.at 0 rfl; have p1 := A10.at 1 rfl; have p2 := A10.at 2 rfl; have p3 := A10.at 3 rfl; have p4 := A10.at 4 rfl; have q0 := D10.at 0 rfl; have q1 := D10.at 1 rfl; have q2 := D10.at 2 rfl; have q3 := D10.at 3 rfl; have q4 := D10.at 4 rfl
        go_wp2_with (first | (go_at_call 15; refine (dsame_yes C10 R10 (by rw [hcv.out, hvh.out.1])).mono ?_; rintro e wm ⟨rfl, hBm⟩; have hT11 := hT10.trans (hBm.mono hT10.size)) | (go_at_call 10; (with_reducible refine (head_any _ (hT.pure hT11)).mono ?_); rintro e w9 ⟨rfl, hB9⟩; have hF := hT11.trans (hB9.mono hT11.size)))
        go_ret
        exact ⟨rfl, hF⟩
end Go.Proofs.YtokemjpobfjiaaaDoor

/- The statement ValueSameCardSaid: whatever its arguments are, the law ValueSame returns true, and leaves its arguments as they were. Conditions: none beyond the statement's own. -/
namespace Go.Proofs.YtokemjpobfjiaaaDoor.holdValueSame
open Go.ChangeShapes Go.WideShapes Go.ChangeAt Go.RowKit
set_option maxRecDepth 100000

theorem ownK : ownKnob Tryd.prog.godebug = none := by kernel_rfl
theorem laidO : laidOutB Tryd.prog = true := by kernel_rfl

theorem laid_met (os : Os) (args : Array Value) : laidMetH Tryd.prog Rows.valueSameRow.laid ((World.laidAll Tryd.prog os LAID).forCall (fun _ _ => 0) ⟨#[], args, []⟩).memory := by
  rw [MakeChecks.laidMetH_plain _ _ _ (by kernel_rfl)]
  exact laidMet_laidAll (laid := LAID) _ (by kernel_rfl) (by kernel_rfl)
theorem reads (os : Os) {H : Type} (enc : TypeId × Value → H) : ∃ places, DataW.whole enc Tryd.prog ((World.laidAll Tryd.prog os LAID).forCall (fun _ _ => 0) ⟨#[], #[.agg #[.int .u8 0, .int .u64 0, .string ⟨#[]⟩, .slice none 0 0, .slice none 0 0], .agg #[.int .u8 0, .int .u64 0, .string ⟨#[]⟩, .slice none 0 0, .slice none 0 0], .string ⟨#[]⟩], []⟩).memory Tryd.f8.params.toList Rows.valueSameSpec.vars false (#[.agg #[.int .u8 0, .int .u64 0, .string ⟨#[]⟩, .slice none 0 0, .slice none 0 0], .agg #[.int .u8 0, .int .u64 0, .string ⟨#[]⟩, .slice none 0 0, .slice none 0 0], .string ⟨#[]⟩] : Array Value).toList 8 = some ([.agg [.lit (.int .u8 0), .lit (.int .u64 0), .lit (.string []), .nil, .nil], .agg [.lit (.int .u8 0), .lit (.int .u64 0), .lit (.string []), .nil, .nil], .lit (.string [])], [], places) :=
  ⟨[], by kernel_rfl⟩
set_option maxHeartbeats 1000000 in
theorem lifted (os : Os) (started : os.Started) (H : Type) (enc : TypeId × Value → H) (F : Stop.Interp) :
    ReturnsInHanded {} Tryd.checked os 8 .any ((OpenSpec.ofChange Rows.valueSameSpec).preRow enc Tryd.prog Tryd.f8 Rows.valueSameRow.domain false Rows.valueSameRow.laid) (((OpenSpec.ofChange Rows.valueSameSpec).at F).post enc Tryd.prog Tryd.f8 false true false false) := by
  obtain ⟨places, hx⟩ := reads os enc
  refine returnsInHanded_of_row (C := Tryd.checked) (s := OpenSpec.ofChange Rows.valueSameSpec) ownK started (by kernel_rfl) Tryd.func8
    (witness_row_at (enc := enc) (C := Tryd.checked) false (World.laidAll Tryd.prog os LAID) #[.agg #[.int .u8 0, .int .u64 0, .string ⟨#[]⟩, .slice none 0 0, .slice none 0 0], .agg #[.int .u8 0, .int .u64 0, .string ⟨#[]⟩, .slice none 0 0, .slice none 0 0], .string ⟨#[]⟩] (World.laidAll_os _ _ _) (by kernel_rfl) (by kernel_rfl) (by kernel_rfl)
      (OpenSpec.preRow_of_cond 8 hx (by kernel_rfl) (fun k hk => by cases hk) (by kernel_rfl) (laid_met os _))) ?_
  intro W base args ds gs before hval0 hW _ _ _ hL _ _
  rw [MakeChecks.laidMetH_plain _ _ _ (by kernel_rfl)] at hL
  have hT := tb_of_laid hL
  clear hL
  have hval : ∀ (j : Nat) t v, Tryd.f8.params[j]? = some t → args[j]? = some v → Value.okWide Tryd.prog W .any base t v := hval0
  have hW' := hW
  obtain ⟨p, q, hA0, hV, rfl, hfz, hnd⟩ := hW
  have hA : DataW.TrodAll enc Tryd.prog W 0 (fun _ => true) true Tryd.f8.params.toList args.toList ds p := hA0
  rw [Tryd.params8] at hA hval
  obtain ⟨v0, vs0, d0, ds0, p0, q0, hargs, rfl, rfl, h0, r0⟩ := trodAll_cons hA
  obtain ⟨v1, vs1, d1, ds1, p1, q1, rfl, rfl, rfl, h1, r1⟩ := trodAll_cons r0
  obtain ⟨v2, vs2, d2, ds2, p2, q2, rfl, rfl, rfl, h2, r2⟩ := trodAll_cons r1
  obtain ⟨rfl, rfl, rfl⟩ := trodAll_nil r2
  obtain rfl : args = #[v0, v1, v2] := by cases args; simp_all
  obtain ⟨rfl, rfl⟩ := trodVars_none hV
  have k0 := hval 0 27 v0 rfl rfl
  have k1 := hval 1 27 v1 rfl rfl
  have k2 := hval 2 9 v2 rfl rfl
  clear hA0 hval0 hval
  simp only [List.append_nil] at hW'
  have hlt : ∀ x ∈ p0 ++ p1 ++ p2, x.block < W.heap.size := fun x hx => by simpa using hW'.lt x (by simpa using hx)
  have g0 : ∀ W', Below W.heap.size W W' → DataW.Trod enc Tryd.prog W' 0 (fun b => decide (b < W.heap.size)) true 27 v0 d0 p0 := fun W' hn => Below.trod laidO (by kernel_rfl) (of_decide_eq_true (by kernel_rfl)) h0 hn (fun x hx => hlt x (by simp [hx]))
  have g1 : ∀ W', Below W.heap.size W W' → DataW.Trod enc Tryd.prog W' 0 (fun b => decide (b < W.heap.size)) true 27 v1 d1 p1 := fun W' hn => Below.trod laidO (by kernel_rfl) (of_decide_eq_true (by kernel_rfl)) h1 hn (fun x hx => hlt x (by simp [hx]))
  have g2 : ∀ W', Below W.heap.size W W' → DataW.Trod enc Tryd.prog W' 0 (fun b => decide (b < W.heap.size)) true 9 v2 d2 p2 := fun W' hn => Below.trod laidO (by kernel_rfl) (of_decide_eq_true (by kernel_rfl)) h2 hn (fun x hx => hlt x (by simp [hx]))
  obtain ⟨t0, rfl, R0⟩ := open_value k0 h0
  obtain ⟨t1, rfl, R1⟩ := open_value k1 h1
  obtain ⟨s2, rfl, rfl, rfl, -⟩ := Go.ChangeMaps.open_string Tryd.underlying9 k2 h2
  refine (valueSame_law W R0 R1 s2 hT).mono fun e W' ⟨he, hb⟩ => ?_
  subst he
  exact ⟨_, rfl, _, _, _, [], _, [], hW', trodAll_cons_mk (shut_bool Tryd.underlying4 _) trodAll_mk0, (trodAll_cons_mk (g0 _ hb) (trodAll_cons_mk (g1 _ hb) (trodAll_cons_mk (g2 _ hb) trodAll_mk0))), rfl, hb.frame _, fun h => by cases h⟩

theorem said : Rows.ValueSameSaid :=
  OpenClaim.holds_of_cond 8 Tryd.f8 rfl rfl rfl rfl rfl rfl rfl ⟨rfl, rfl, rfl, rfl, rfl⟩ rfl rfl rfl rfl rfl (by kernel_rfl) Tryd.func8 (by kernel_rfl)
    (of_decide_eq_true (by kernel_rfl)) (by unfold Func.isWrapper; first | (rw [if_pos (by decide +kernel)]; kernel_rfl) | (rw [if_neg (by decide +kernel)]; exact ⟨rfl, rfl⟩))
    (fun os started H enc _ F => by rw [OpenClaim.pre_eq_preRow]; exact lifted os started H enc F)
theorem plainP (f : FuncId) (fn : Func) (hf : Tryd.pinned.checked.prog.funcNamed "posthouse/posthouselaw05.ValueSame" = some f) (hfn : Tryd.pinned.checked.prog.funcs[f]? = some fn) :
    true = Tryd.pinned.checked.prog.looks [] ∧ ∀ (j : Nat) t, fn.params[j]? = some t → Tryd.pinned.checked.prog.wantsStandIn t = false := by
  obtain rfl : f = 8 := Option.some.inj ((show Tryd.prog.funcNamed "posthouse/posthouselaw05.ValueSame" = some 8 by kernel_rfl).symm.trans hf) |>.symm
  obtain rfl : fn = Tryd.f8 := (Option.some.inj (Tryd.func8.symm.trans hfn)).symm
  refine ⟨by kernel_rfl, fun j t ht => ?_⟩
  rw [Tryd.params8] at ht
  have hm := Array.mem_of_getElem? ht
  simp only [List.mem_toArray, List.mem_cons, List.not_mem_nil, or_false] at hm
  rcases hm with rfl | rfl | rfl <;> exact (show Tryd.prog.wantsStandIn _ = false by kernel_rfl)
/-- The card. -/
theorem card : Rows.ValueSameCardSaid :=
  Claim7.holds_tied_plain_at .later [] _ _ _ _ said (fun _ h => by cases h) (by kernel_rfl) (fun _ h => by cases h) valueSame_row_tie rfl ⟨rfl, rfl⟩ (by kernel_rfl) rfl plainP (by kernel_rfl)
end Go.Proofs.YtokemjpobfjiaaaDoor.holdValueSame
namespace Go.Proofs.YtokemjpobfjiaaaDoor
set_option linter.unusedSimpArgs false
set_option linter.unusedVariables false
theorem valueSameCard_holds : Rows.ValueSameCardSaid := holdValueSame.card
#print axioms valueSameCard_holds
end Go.Proofs.YtokemjpobfjiaaaDoor
