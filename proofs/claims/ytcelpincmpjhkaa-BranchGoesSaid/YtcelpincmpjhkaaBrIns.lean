/- slices.Insert of one element at []api.Branch. Conditions: the slice is the call's own; the element lies in a block of its own. Written by gen_insert.py. -/
import Derived.Test.YtcelpincmpjhkaaHA
import Derived.Test.YtcelpincmpjhkaaGA
import Derived.IntWalk
namespace Go.Proofs.Ytcelpincmpjhkaa
set_option linter.unusedSimpArgs false
set_option linter.unusedVariables false
open Go.RowKit

theorem br_wp_copy {P : Program} (w : World) {o : Oper} {a : Act} {K : Act → World → Prop} {Q : Exit → Act → World → Prop} (d s : Operand) (t t' : TypeId)
    (ho : o.op = .call { callee := .builtin .copy, args := #[d, s], argTypes := #[t, t'] }) (v u : Value) (hd : a.eval d = v) (hs : a.eval s = u) {v' : Value} {w' : World}
    (hr : (Builtin.copy_ #[t, t'] o.type #[v, u]).run P w = .ok v' w') (h : K (a.put o.dst v') w') : o.wp P a w K Q := by
  unfold Oper.wp execOp
  simp only [ho, resolve, invoke, builtin, Sem.run_bind, Sem.run_pure, Result.andThen_ok, List.map_toArray, List.map_cons, List.map_nil, hd, hs, hr]
  exact h
theorem br_wpList_copy {P : Program} (w : World) {ops : Array Oper} {rest : List Oper} {o : Oper} {a : Act} {Q : Exit → Act → World → Prop} (hgd : o.guard = none) (d s : Operand) (t t' : TypeId)
    (ho : o.op = .call { callee := .builtin .copy, args := #[d, s], argTypes := #[t, t'] }) (v u : Value) (hd : a.eval d = v) (hs : a.eval s = u) {v' : Value} {w' : World}
    (hr : (Builtin.copy_ #[t, t'] o.type #[v, u]).run P w = .ok v' w') (h : wpList P ops Q rest (a.put o.dst v') w') : wpList P ops Q (o :: rest) a w :=
  wpList_plain hgd fun _ hK => br_wp_copy w d s t t' ho v u hd hs hr (hK _ _ h)
theorem br_step_copy {P : Program} {ops : Array Oper} {o : Oper} {a : Act} {w : World} {K : Act → World → Prop} {Q : Exit → Act → World → Prop} {Z : Prop}
    (hg : o.guard = none) (d x : Operand) (dT sT : TypeId) (hop : o.op = Op.call { callee := Callee.builtin Builtin.copy, args := #[d, x], argTypes := #[dT, sT] })
    (v u : Value) (hd : a.eval d = v) (hx : a.eval x = u) {v' : Value} {w' : World} (hr : (Builtin.copy_ #[dT, sT] o.type #[v, u]).run P w = .ok v' w') (hK : K (a.put o.dst v') w') :
    if Region.wanted o (yielded ops a.tmps) = true then Oper.wp P o a w K Q else Z := by
  have hw : Region.wanted o (yielded ops a.tmps) = true := by simp [Region.wanted, hg]
  rw [if_pos hw]
  unfold Oper.wp
  simp [execOp, hop, resolve, invoke, builtin, hd, hx, hr, Result.andThen]
  exact hK

/-- What Insert leaves. -/
def brInsPost (base : Nat) (w : World) (v : Value) (L : List Brn) (e : Ending) (w' : World) : Prop :=
  ∃ r, e = .returned r ∧ Own base 44 7 brEnc w' r L ∧ Upd (fun k => v.ownBlock = some k) w w' ∧ (∀ k, r.ownBlock = some k → v.ownBlock = some k ∨ w.heap.size ≤ k)

set_option maxHeartbeats 1600000 in
theorem br_insert_end {base : Nat} (w : World) (v : Value) (L : List Brn) (x : Brn) (vb : Nat) (h : Own base 44 7 brEnc w v L) (hbase : base ≤ w.heap.size) (hL : L.length ≤ 1000000) (hx : Blk w vb (brEnc x)) :
    Calls Try.prog 102 #[v, .int .i64 L.length, .slice (some ⟨vb, 0, none⟩) 1 1] w (brInsPost base w v (L ++ [x])) := by
  have hown := Lib.hid h
  obtain ⟨a, cap, rfl, hm⟩ := (h.slc brEnc_len).len
  unfold maxLen at hm
  clear h
  have hxc : ∀ j u, (brEnc x)[j]? = some u → w.cell? ⟨vb, j, none⟩ = some u := fun j u hu => (hx.cell j).trans hu
  have hxc' := Lib.hid hxc
  clear hxc
  obtain ⟨A, hA⟩ : ∃ A, (if cap = L.length then a else Option.map (fun x => x.add (L.length * 7)) a) = A := ⟨_, rfl⟩
  go_enter Try.func102, Try.ntmps102
  go_wp2_with (at_builtin; refine wpList_app1 rfl (.tmp 23) (.tmp 24) 22 44 rfl elem_br brEnc_len brEnc_one (.slice a L.length cap) L rfl hown.out vb 1 x rfl hxc'.out (by omega) (by unfold maxLen; omega) hbase ?_; intro g' cap' w2 hO hgr hfr)
  go_ret
  refine ⟨.slice (some ⟨g', 0, none⟩) (L.length + 1) cap', rfl, hO, Upd.grown hgr (fun k hk => hk), fun k hk => ?_⟩
  have hk' : g' = k := by simpa [Value.ownBlock] using hk
  subst hk'
  rcases hfr with h | h
  · exact .inl h
  · right; omega

set_option maxRecDepth 100000 in
set_option maxHeartbeats 1600000 in
/-- There is room. -/
theorem br_insert_room {base : Nat} (w : World) (g cap i : Nat) (L : List Brn) (x : Brn) (vb : Nat) (h : Own base 44 7 brEnc w (.slice (some ⟨g, 0, none⟩) L.length cap) L) (hL : L.length ≤ 1000000) (hi : i < L.length) (hroom : L.length + 1 ≤ cap) (hx : Blk w vb (brEnc x)) (hvb : vb ≠ g) :
    Calls Try.prog 102 #[.slice (some ⟨g, 0, none⟩) L.length cap, .int .i64 i, .slice (some ⟨vb, 0, none⟩) 1 1] w (brInsPost base w (.slice (some ⟨g, 0, none⟩) L.length cap) (L.take i ++ x :: L.drop i)) := by
  have mixed : Try.prog.follows .mixedOrders = true := by kernel_rfl
  obtain ⟨ex, hex, hown⟩ := grow_own h hroom
  have hcap : cap ≤ 9223372036854775807 := by
    rcases h.cases with ⟨h', _⟩ | ⟨g', cap', h', _, _, k1, k2⟩
    · simp at h'
    · simp only [Value.slice.injEq] at h'; unfold maxLen at k2; omega
  have hfl : (L.flatMap brEnc).length = L.length * 7 := flat_len brEnc_len L
  have hdl : ((L.drop i).flatMap brEnc).length = (L.length - i) * 7 := by rw [flat_len brEnc_len, List.length_drop]
  have hyl : (L.flatMap brEnc ++ ex).length = (L.length + 1) * 7 := by rw [List.length_append, hfl, hex, Nat.succ_mul]
  have hdg : ∀ j u, ((L.drop i).flatMap brEnc)[j]? = some u → (L.flatMap brEnc ++ ex)[i * 7 + j]? = some u := fun j u hu => by
    rw [flat_drop brEnc_len, List.getElem?_drop] at hu
    rw [List.getElem?_append_left (List.getElem?_eq_some_iff.1 hu).1]; exact hu
  have hsome : ∀ t, t < (L.length + 1) * 7 → (w.cell? ⟨g, t, none⟩).isSome = true := fun t ht => by
    rw [row_cells hown t _ (List.getElem?_eq_getElem (by rw [hyl]; exact ht))]; rfl
  have hcp1 : ∀ ty dl dc sl sc, dl = L.length - i → sl = L.length + 1 - i → (Builtin.copy_ #[22, 22] ty #[.slice (some ⟨g, (i + 1) * 7, none⟩) dl dc, .slice (some ⟨g, i * 7, none⟩) sl sc]).run Try.prog w.drew = .ok (goInt (L.length - i : Nat)) (w.drew.setCells g ((i + 1) * 7) ((L.drop i).flatMap brEnc)) := fun ty dl dc sl sc hdl' hsl' =>
    run_copy_m w.drew _ ty g ((i + 1) * 7) _ dc ⟨g, i * 7, none⟩ _ sc (L.length - i) _ elem_br (by simp only [Nat.min_def]; split <;> omega) hdl
      (fun j u hj => by
        have e : (⟨g, i * 7, none⟩ : Addr).add j = ⟨g, i * 7 + j, none⟩ := by unfold Addr.add; split <;> simp_all
        rw [e]; exact row_cells hown _ _ (hdg j u hj))
      (fun j hj => hsome _ (by rw [hdl] at hj; omega)) (fun j _ => row_frozen hown _)
      (fun u hu => by obtain ⟨y, _, hy⟩ := List.mem_flatMap.1 hu; exact brEnc_one y u hy)
  obtain ⟨W1, hW1⟩ : ∃ W1, W1 = w.drew.setCells g ((i + 1) * 7) ((L.drop i).flatMap brEnc) := ⟨_, rfl⟩
  have hown1 : W1.ownsRow base 44 7 (.slice (some ⟨g, 0, none⟩) (L.length + 1) cap) (L.length + 1) (splice (L.flatMap brEnc ++ ex) ((i + 1) * 7) ((L.drop i).flatMap brEnc)) := by
    rw [hW1]; exact stored_many _ _ w.drew _ hown
  have hU1 : Upd (· = g) w W1 := by rw [hW1]; exact (Upd.drew (Upd.refl (· = g) w)).trans (set_cells_upd (S := (· = g)) rfl _ _ _) (fun _ h _ => h)
  have hx1 : Blk W1 vb (brEnc x) := hx.upd hU1 hvb
  have hs1 : (splice (L.flatMap brEnc ++ ex) ((i + 1) * 7) ((L.drop i).flatMap brEnc)).length = (L.length + 1) * 7 := by rw [splice_len, hyl]
  have hcp2 : ∀ (W : World), (∀ p, W.cell? p = W1.cell? p) → (∀ p, W.frozen? p = W1.frozen? p) → ∀ ty dl dc, 1 ≤ dl → (Builtin.copy_ #[22, 22] ty #[.slice (some ⟨g, i * 7, none⟩) dl dc, .slice (some ⟨vb, 0, none⟩) 1 1]).run Try.prog W = .ok (goInt 1) (W.setCells g (i * 7) (brEnc x)) := fun W hWc hWf ty dl dc hdl' =>
    run_copy_m W _ ty g (i * 7) _ dc ⟨vb, 0, none⟩ _ 1 1 _ elem_br (by simp only [Nat.min_def]; split <;> omega) (by rw [brEnc_len])
      (fun j u hj => by
        have e : (⟨vb, 0, none⟩ : Addr).add j = ⟨vb, j, none⟩ := by unfold Addr.add; split <;> simp_all
        rw [e, hWc]; exact (hx1.cell j).trans hj)
      (fun j hj => by
        rw [brEnc_len] at hj
        rw [hWc, row_cells hown1 _ _ (List.getElem?_eq_getElem (by rw [hs1]; omega))]; rfl)
      (fun j _ => by rw [hWf]; exact row_frozen hown1 _) (fun u hu => brEnc_one x u hu)
  have hov : ∀ lb cb, (callFunc 121 #[.slice (some ⟨vb, 0, none⟩) 1 1, .slice (some ⟨g, (i + 1) * 7, none⟩) lb cb]).run Try.prog w = .ok (.value (.bool false)) w := fun lb cb => by
    obtain ⟨TA, hTA⟩ := hx.shape
    have hTB := row_shape hown
    rw [run_callFunc_extern Try.func121 (by kernel_rfl) (by kernel_rfl) (by kernel_rfl) (e := Extern.SlicesOverlaps.overlaps #[22, 22] #[4]) (by kernel_rfl),
      Lib.run_overlaps_apart w 22 4 44 Try.underlying22 7 (fun w => size_run elem_br) ⟨vb, 0, none⟩ ⟨g, (i + 1) * 7, none⟩ 1 1 lb cb hvb _ _ _ _ hTA hTB (by omega) (hx.frozen 0) (hx.frozen _)]
    rfl
  have hfin : splice (splice (L.flatMap brEnc ++ ex) ((i + 1) * 7) ((L.drop i).flatMap brEnc)) (i * 7) (brEnc x) = (L.take i ++ x :: L.drop i).flatMap brEnc :=
    (splice_in brEnc_len L i (by omega) x _ hyl (by rw [List.take_append_of_le_length (by rw [hfl]; omega), flat_take brEnc_len])).2
  have hlen : (L.take i ++ x :: L.drop i).length = L.length + 1 := by simp; omega
  have hW1' := Lib.hid hW1
  rw [← hW1] at hcp1
  have hfin' := Lib.hid hfin
  have hlen' := Lib.hid hlen
  have hown1' := Lib.hid hown1
  clear hW1 hown1 hfl hdl hyl hdg hsome hs1 hfin hlen h hown hex
  have hb0 : ¬ (cap = i) := by omega
  have hb1 : ¬ (cap = i + 1) := by omega
  have hb2 : ¬ ((i : Int) = (L.length : Int)) := by omega
  have hb3 : (L.length : Int) + 1 ≤ (cap : Int) := by omega
  have hb4 : (0 : Int) ≤ (i : Int) + 1 := by omega
  have hb6 : (i : Int) ≤ (L.length : Int) + 1 := by omega
  have hb5 : (i : Int) + 1 ≤ (L.length : Int) + 1 := by omega
  have hw1 : IntKind.i64.wrap ((i : Int) + 1) = (i : Int) + 1 := IntWalk.i64_in _ (by omega)
  have htn : ((i : Int) + 1).toNat = i + 1 := by omega
  have htl : ((L.length : Int) + 1).toNat = L.length + 1 := by omega
  go_enter Try.func102, Try.ntmps102
  go_wp2_with (simp only [hov])
  have hc1 := Lib.hid hcp1
  have hc2 := Lib.hid hcp2
  clear hcp1 hcp2
  go_region_law (refine br_step_copy rfl (.tmp 73) (.tmp 76) 22 22 rfl _ _ (by simp [Act.eval, Act.put]) (by simp [Act.eval, Act.put]) (hc1.out _ (L.length - i) (cap - (i + 1)) (L.length + 1 - i) (cap - i) (by omega) (by omega)) ?_)
  go_wp2_with (refine br_wpList_copy _ rfl (.tmp 80) (.tmp 81) 22 22 rfl _ _ rfl rfl (hc2.out _ (fun _ => rfl) (fun _ => rfl) _ (L.length + 1 - i) (cap - i) (by omega)) ?_)
  go_ret
  refine ⟨.slice (some ⟨g, 0, none⟩) (L.length + 1) cap, rfl, ?_, ?_, fun k hk => .inl hk⟩
  · refine Own.toRow (n := L.length + 1) ?_ hlen'.out.symm hfin'.out
    exact stored_many _ _ _ _ hown1'.out
  · have hu1 := hU1.mono (T := fun k => (Value.slice (some ⟨g, 0, none⟩) L.length cap).ownBlock = some k) (fun k hk _ => by rw [hk]; rfl)
    exact hu1.trans (set_cells_upd (S := fun k => (Value.slice (some ⟨g, 0, none⟩) L.length cap).ownBlock = some k) rfl _ _ _) (fun _ h _ => h)

set_option maxRecDepth 100000 in
set_option maxHeartbeats 1600000 in
/-- There is no room. -/
theorem br_insert_grow {base : Nat} (w : World) (g cap i : Nat) (L : List Brn) (x : Brn) (vb : Nat) (h : Own base 44 7 brEnc w (.slice (some ⟨g, 0, none⟩) L.length cap) L) (hbase : base ≤ w.heap.size) (hL : L.length ≤ 1000000) (hi : i < L.length) (hroom : cap < L.length + 1) (hx : Blk w vb (brEnc x)) :
    Calls Try.prog 102 #[.slice (some ⟨g, 0, none⟩) L.length cap, .int .i64 i, .slice (some ⟨vb, 0, none⟩) 1 1] w (brInsPost base w (.slice (some ⟨g, 0, none⟩) L.length cap) (L.take i ++ x :: L.drop i)) := by
  have mixed : Try.prog.follows .mixedOrders = true := by kernel_rfl
  have hlc : L.length ≤ cap := by
    rcases h.cases with ⟨h', _⟩ | ⟨g', cap', h', _, _, k1, k2⟩
    · simp at h'
    · simp only [Value.slice.injEq] at h'; omega
  have hgl : g < w.heap.size := h.lt rfl
  obtain ⟨i0, hi0, hz0, hz1, hz2⟩ := info_parts info_br
  have hfl : (L.flatMap brEnc).length = L.length * 7 := flat_len brEnc_len L
  have htl0 : ((L.take i).flatMap brEnc).length = i * 7 := by rw [flat_len brEnc_len, List.length_take]; congr 1; omega
  have hdl : ((L.drop i).flatMap brEnc).length = (L.length - i) * 7 := by rw [flat_len brEnc_len, List.length_drop]
  obtain ⟨c, hc⟩ : ∃ c, c = L.length + 1 - i := ⟨_, rfl⟩
  have hic : i + c = L.length + 1 := by omega
  have hapn : ∀ ty, (Builtin.append_ #[22, 3] ty #[.slice (some ⟨g, 0, none⟩) i cap, .int .i64 ((L.length : Int) + 1 - i)]).run Try.prog w =
      .ok (.slice (some ⟨w.heap.size, 0, none⟩) (L.length + 1) (grownCap w (L.length + 1) cap 44)) (w.drew.alloc (.cells (((L.take i).flatMap brEnc).toArray ++ Builtin.zeroCells #[.int .u32 0, .string ⟨#[]⟩, .string ⟨#[]⟩, .int .u8 0, .int .u8 0, .int .u32 0, .int .u32 0] c ++ Builtin.zeroCells #[.int .u32 0, .string ⟨#[]⟩, .string ⟨#[]⟩, .int .u8 0, .int .u8 0, .int .u32 0, .int .u32 0] (grownCap w (L.length + 1) cap 44 - (L.length + 1))) 44)) := fun ty => by
    have := run_append_zeros_grow (P := Try.prog) w 22 3 ty 44 i0 _ .i64 .i64 Try.underlying22 Try.underlying3 hi0 hz0 ⟨g, 0, none⟩ i cap c ((L.take i).flatMap brEnc) (by rw [hz1]; exact htl0)
      (fun j u hu => by
        have e : (⟨g, 0, none⟩ : Addr).add j = ⟨g, j, none⟩ := by unfold Addr.add; split <;> simp_all
        rw [e]
        have hj : j < i * 7 := by rw [← htl0]; exact (List.getElem?_eq_some_iff.1 hu).1
        rw [flat_take brEnc_len, List.getElem?_take, if_pos hj] at hu
        exact row_cells h j u hu)
      (by omega) (by rw [hz1]; omega) (by omega) (by omega) (by rw [hic]; exact growslice_fits (by omega) (by rw [hz2]; omega)) (by rw [hz2]; omega)
    rw [hic] at this
    have e1 : ((L.length : Int) + 1 - i) = (c : Int) := by omega
    rw [e1]; exact this
  obtain ⟨capN, hcN⟩ : ∃ capN, capN = grownCap w (L.length + 1) cap 44 := ⟨_, rfl⟩
  have hcN1 : L.length + 1 ≤ capN := by rw [hcN]; exact grownCap_ge _ _ _ _
  have hcN2 : capN ≤ maxLen := by rw [hcN]; exact grownCap_le_maxLen _ _ _ _ (by unfold maxLen; omega)
  obtain ⟨W1, hW1⟩ : ∃ W1, W1 = w.drew.alloc (.cells (((L.take i).flatMap brEnc).toArray ++ Builtin.zeroCells #[.int .u32 0, .string ⟨#[]⟩, .string ⟨#[]⟩, .int .u8 0, .int .u8 0, .int .u32 0, .int .u32 0] c ++ Builtin.zeroCells #[.int .u32 0, .string ⟨#[]⟩, .string ⟨#[]⟩, .int .u8 0, .int .u8 0, .int .u32 0, .int .u32 0] (capN - (L.length + 1))) 44) := ⟨_, rfl⟩
  have hown1 : W1.ownsRow base 44 7 (.slice (some ⟨w.heap.size, 0, none⟩) (L.length + 1) capN) (L.length + 1) ((L.take i).flatMap brEnc ++ (Builtin.zeroCells #[.int .u32 0, .string ⟨#[]⟩, .string ⟨#[]⟩, .int .u8 0, .int .u8 0, .int .u32 0, .int .u32 0] c).toList) := by
    have := own_zeros (base := base) (e := 44) (m := 7) w.drew ((L.take i).flatMap brEnc) #[.int .u32 0, .string ⟨#[]⟩, .string ⟨#[]⟩, .int .u8 0, .int .u8 0, .int .u32 0, .int .u32 0] i c capN rfl htl0 hbase (by omega) hcN2
    rw [hic] at this
    rw [hW1]; exact this
  have hB1 : Below w.heap.size w W1 := by rw [hW1]; exact (below_dr (Below.refl w.heap.size w)).alloc (Nat.le_refl _) _
  rw [← hcN, ← hW1] at hapn
  have hyl : ((L.take i).flatMap brEnc ++ (Builtin.zeroCells #[.int .u32 0, .string ⟨#[]⟩, .string ⟨#[]⟩, .int .u8 0, .int .u8 0, .int .u32 0, .int .u32 0] c).toList).length = (L.length + 1) * 7 := by
    have hz : (Builtin.zeroCells #[.int .u32 0, .string ⟨#[]⟩, .string ⟨#[]⟩, .int .u8 0, .int .u8 0, .int .u32 0, .int .u32 0] c).toList.length = c * 7 := by rw [Array.length_toList, zeroCells_len]; rfl
    rw [List.length_append, htl0, hz, ← Nat.add_mul, hic]
  have hxw : Blk W1 vb (brEnc x) := hx.pure hB1
  have hvs : vb < w.heap.size := hx.lt
  -- the element
  have hcp1 : ∀ ty dl dc, 1 ≤ dl → (Builtin.copy_ #[22, 22] ty #[.slice (some ⟨w.heap.size, i * 7, none⟩) dl dc, .slice (some ⟨vb, 0, none⟩) 1 1]).run Try.prog W1 = .ok (goInt 1) (W1.setCells w.heap.size (i * 7) (brEnc x)) := fun ty dl dc hdl' =>
    run_copy_m W1 _ ty w.heap.size (i * 7) _ dc ⟨vb, 0, none⟩ _ 1 1 _ elem_br (by simp only [Nat.min_def]; split <;> omega) (by rw [brEnc_len])
      (fun j u hj => by
        have e : (⟨vb, 0, none⟩ : Addr).add j = ⟨vb, j, none⟩ := by unfold Addr.add; split <;> simp_all
        rw [e]; exact (hxw.cell j).trans hj)
      (fun j hj => by
        rw [brEnc_len] at hj
        rw [row_cells hown1 _ _ (List.getElem?_eq_getElem (by rw [hyl]; omega))]; rfl)
      (fun j _ => row_frozen hown1 _) (fun u hu => brEnc_one x u hu)
  obtain ⟨W2, hW2⟩ : ∃ W2, W2 = W1.setCells w.heap.size (i * 7) (brEnc x) := ⟨_, rfl⟩
  have hown2 : W2.ownsRow base 44 7 (.slice (some ⟨w.heap.size, 0, none⟩) (L.length + 1) capN) (L.length + 1) (splice ((L.take i).flatMap brEnc ++ (Builtin.zeroCells #[.int .u32 0, .string ⟨#[]⟩, .string ⟨#[]⟩, .int .u8 0, .int .u8 0, .int .u32 0, .int .u32 0] c).toList) (i * 7) (brEnc x)) := by
    rw [hW2]; exact stored_many _ _ W1 _ hown1
  have hs2 : (splice ((L.take i).flatMap brEnc ++ (Builtin.zeroCells #[.int .u32 0, .string ⟨#[]⟩, .string ⟨#[]⟩, .int .u8 0, .int .u8 0, .int .u32 0, .int .u32 0] c).toList) (i * 7) (brEnc x)).length = (L.length + 1) * 7 := by rw [splice_len, hyl]
  have hB2 : Below w.heap.size w W2 := by
    rw [hW2]; exact hB1.trans (Upd.below (set_cells_upd (S := (· = w.heap.size)) rfl _ _ _) hB1.size (fun k hk => by omega))
  rw [← hW2] at hcp1
  have hcp2 : ∀ ty dl dc sl sc, dl = L.length - i → sl = L.length - i → (Builtin.copy_ #[22, 22] ty #[.slice (some ⟨w.heap.size, (i + 1) * 7, none⟩) dl dc, .slice (some ⟨g, i * 7, none⟩) sl sc]).run Try.prog W2.drew = .ok (goInt (L.length - i : Nat)) (W2.drew.setCells w.heap.size ((i + 1) * 7) ((L.drop i).flatMap brEnc)) := fun ty dl dc sl sc hdl' hsl' =>
    run_copy_m W2.drew _ ty w.heap.size ((i + 1) * 7) _ dc ⟨g, i * 7, none⟩ _ sc (L.length - i) _ elem_br (by simp only [Nat.min_def]; split <;> omega) hdl
      (fun j u hj => by
        have e : (⟨g, i * 7, none⟩ : Addr).add j = ⟨g, i * 7 + j, none⟩ := by unfold Addr.add; split <;> simp_all
        rw [flat_drop brEnc_len, List.getElem?_drop] at hj
        rw [e]
        exact (hB2.cell (p := ⟨g, i * 7 + j, none⟩) hgl).trans (row_cells h _ _ hj))
      (fun j hj => by
        rw [hdl] at hj
        show (W2.cell? _).isSome = true
        rw [row_cells hown2 _ _ (List.getElem?_eq_getElem (by rw [hs2]; omega))]; rfl)
      (fun j _ => row_frozen hown2 _)
      (fun u hu => by obtain ⟨y, _, hy⟩ := List.mem_flatMap.1 hu; exact brEnc_one y u hy)
  have hfin : splice (splice ((L.take i).flatMap brEnc ++ (Builtin.zeroCells #[.int .u32 0, .string ⟨#[]⟩, .string ⟨#[]⟩, .int .u8 0, .int .u8 0, .int .u32 0, .int .u32 0] c).toList) (i * 7) (brEnc x)) ((i + 1) * 7) ((L.drop i).flatMap brEnc) = (L.take i ++ x :: L.drop i).flatMap brEnc :=
    (splice_in brEnc_len L i (by omega) x _ hyl (by rw [List.take_left' htl0])).1
  have hlen : (L.take i ++ x :: L.drop i).length = L.length + 1 := by simp; omega
  have ha := Lib.hid hapn
  have hc1 := Lib.hid hcp1
  have hc2 := Lib.hid hcp2
  have hfin' := Lib.hid hfin
  have hlen' := Lib.hid hlen
  have hown2' := Lib.hid hown2
  unfold maxLen at hcN2
  clear hapn hcp1 hcp2 hfin hlen hown2 hown1 hW1 hW2 hcN hfl htl0 hdl hyl hs2 h hic hc hxw hi0 hz0 hz1 hz2
  have hb0 : ¬ (cap = i) := by omega
  have hb1 : ¬ (capN = i + 1) := by omega
  have hb7 : ¬ (capN = i) := by omega
  have hb2 : ¬ ((i : Int) = (L.length : Int)) := by omega
  have hb3 : (cap : Int) < (L.length : Int) + 1 := by omega
  have hb4 : (0 : Int) ≤ (i : Int) + 1 := by omega
  have hb5 : (i : Int) + 1 ≤ (L.length : Int) + 1 := by omega
  have hb6 : (i : Int) ≤ (L.length : Int) + 1 := by omega
  have hb8 : (i : Int) ≤ (cap : Int) := by omega
  have hb9 : i ≤ L.length := by omega
  have hw1 : IntKind.i64.wrap ((i : Int) + 1) = (i : Int) + 1 := IntWalk.i64_in _ (by omega)
  have htn : ((i : Int) + 1).toNat = i + 1 := by omega
  go_enter Try.func102, Try.ntmps102
  go_wp2_with (first | (at_builtin; refine Lib.wpList_append_run _ rfl (.tmp 34) (.tmp 39) 22 3 rfl _ _ rfl rfl _ _ (ha.out _) ?_) | (refine br_wpList_copy _ rfl (.tmp 43) (.tmp 44) 22 22 rfl _ _ rfl rfl (hc1.out _ (L.length + 1 - i) (capN - i) (by omega)) ?_))
  go_region_law (refine br_step_copy rfl (.tmp 50) (.tmp 53) 22 22 rfl _ _ (by simp [Act.eval, Act.put]) (by simp [Act.eval, Act.put]) (hc2.out _ (L.length - i) (capN - (i + 1)) (L.length - i) (cap - i) rfl rfl) ?_)
  go_wp2
  go_ret
  refine ⟨.slice (some ⟨w.heap.size, 0, none⟩) (L.length + 1) capN, rfl, ?_, ?_, fun k hk => ?_⟩
  · refine Own.toRow (n := L.length + 1) ?_ hlen'.out.symm hfin'.out
    exact stored_many _ _ W2.drew _ hown2'.out
  · refine Upd.of_below ?_
    exact (below_dr hB2).trans (Upd.below (set_cells_upd (S := (· = w.heap.size)) rfl _ _ _) hB2.size (fun k hk => by omega))
  · have : w.heap.size = k := by simpa [Value.ownBlock] using hk
    right; omega

/-- Any place. -/
theorem br_insert {base : Nat} (w : World) (v : Value) (i : Nat) (L : List Brn) (x : Brn) (vb : Nat) (h : Own base 44 7 brEnc w v L) (hbase : base ≤ w.heap.size) (hL : L.length ≤ 1000000) (hi : i ≤ L.length) (hx : Blk w vb (brEnc x)) (hvb : v.ownBlock ≠ some vb) :
    Calls Try.prog 102 #[v, .int .i64 i, .slice (some ⟨vb, 0, none⟩) 1 1] w (brInsPost base w v (L.take i ++ x :: L.drop i)) := by
  rcases Nat.lt_or_ge i L.length with h1 | h1
  · obtain ⟨g, cap, rfl, _, _⟩ := h.shape (fun e => by rw [e] at h1; simp at h1)
    rcases Nat.lt_or_ge cap (L.length + 1) with h2 | h2
    · exact br_insert_grow w g cap i L x vb h hbase hL h1 h2 hx
    · exact br_insert_room w g cap i L x vb h hL h1 h2 hx (fun e => hvb (by rw [e]; rfl))
  · obtain rfl : i = L.length := by omega
    rw [List.take_length, List.drop_length]
    exact br_insert_end w v L x vb h hbase hL hx
end Go.Proofs.Ytcelpincmpjhkaa
