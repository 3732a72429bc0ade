/- slices.Index and slices.Contains at names of messages. Conditions: none. Written by gen_wkG.py. (Texts joined.) -/
import Derived.Test.YtlonokcaddpniaaGreatDoorWA
import Derived.Test.YtlonokcaddpniaaGreatDoorKA
import Derived.BigRegion
import Derived.ArgAppend
import Derived.BigQuiet
set_option linter.unusedSimpArgs false
set_option linter.unusedVariables false
namespace Go.Proofs.YtlonokcaddpniaaGreatDoor
open Go.RowKit
/-- A work in memory of its own. -/
abbrev WkOw (B : Nat) (w : World) (t : WkT) : Prop := EnOw B w t.en
theorem EnOw.work {B : Nat} {w : World} {t : EnT} (h : EnOw B w t) : WkOw B w ⟨t.pv, t.tv, t.puts, t.takes⟩ :=
  ⟨h.p, h.r, h.s, h.d, h.rd.work.wf⟩
def wkCells (pv tv : Value) : List Value := [.int .u8 4, .string ⟨#[]⟩, .int .u64 0, .int .u32 0, .string ⟨#[120]⟩, .string ⟨#[]⟩, pv, tv]
theorem add_full (w : World) (pa ta : Option Addr) (pn pc tn tc : Nat) (n : Int) (hn : 100 ≤ n) (f : Value) : Calls Tryz.prog 36 #[.agg #[.slice pa pn pc, .slice ta tn tc], .int .i64 n, f] w fun e w' => e = .returned (.tuple #[.agg #[.slice none 0 0, .slice none 0 0], .int .i64 6]) ∧ Below w.heap.size w w' := by
  have zi := w_info; have hA := Lib.hid (((Below.refl w.heap.size w).alloc (Nat.le_refl _) (.cells #[.slice pa pn pc, .slice ta tn tc] 25)).alloc (by simp) (.cells #[.slice none 0 0, .slice none 0 0] 25)); have K := Lib.hid (Blk.newE (w.alloc (.cells #[.slice pa pn pc, .slice ta tn tc] 25)) [.slice none 0 0, .slice none 0 0] 25 (w.heap.size + 1) (by simp)); have h1 : decide (100 ≤ n) = true := decide_eq_true hn; go_enter Tryz.func36, Tryz.ntmps36; go_wp2; have K := K.out; have hA := hA.out; have k0 := K.at 0 rfl; have k1 := K.at 1 rfl; refine bodyPost_ret (by simp [results, Tryz.results36, go_sem, k0, k1]; rfl) rfl ?_; exact ⟨rfl, hA⟩
set_option maxRecDepth 100000 in
set_option maxHeartbeats 12800000 in
theorem add_any (hPu : PuOk) (hGe : GeOk) (w : World) (pa ta : Option Addr) (pc tc : Nat) (puts : List PtT) (takes : List Rf) (n : Int) (hn : n < 100) (F : Nat) (caps : Array Value) (P : Nat → Prop) (W2 : Wk) (hT : Tb w)
    (hR : WkRd P w (WkT.mk (.slice pa puts.length pc) (.slice ta takes.length tc) puts takes)) (hok : W2.whole.chk = 0)
    (hF : ∀ (args : Array Value) (u : World), (callFunc F args).run Tryz.prog u = .ok (.enter F args) u)
    (hdo : ∀ (u : World) (b : Nat), Below w.heap.size w u → w.heap.size ≤ b → Blk u b [.int .u8 4, .string ⟨#[]⟩, .int .u64 0, .int .u32 0, .string ⟨#[120]⟩, .string ⟨#[]⟩, .slice pa puts.length puts.length, .slice ta takes.length takes.length] →
      Calls Tryz.prog F (#[.pointer (some ⟨b, 0, none⟩)] ++ caps) u fun e u' => e = .returned (.tuple #[]) ∧ ∃ (t : WkT) (P2 : Nat → Prop), Blk u' b (wkCells t.pv t.tv) ∧ WkRd P2 u' t ∧ t.w = W2 ∧ Upd (fun k => k = b) u u') :
    Calls Tryz.prog 36 #[.agg #[.slice pa puts.length pc, .slice ta takes.length tc], .int .i64 n, .func (.func F) #[] caps] w fun e w' => ∃ t : WkT, e = .returned (.tuple #[t.arg, .int .i64 0]) ∧ t.w = W2 ∧ WkOw w.heap.size w' t ∧ Below w.heap.size w w' := by
  have zi := w_info; have ze := w_einfo; have hB1 := ((Below.refl w.heap.size w).alloc (Nat.le_refl _) (.cells #[.slice pa puts.length pc, .slice ta takes.length tc] 25)).alloc (by simp) (.cells #[.slice none 0 0, .slice none 0 0] 25); have A1 := (Blk.new w [.slice pa puts.length pc, .slice ta takes.length tc] 25).alloc (.cells #[.slice none 0 0, .slice none 0 0] 25); have Z1 := Blk.newE (w.alloc (.cells #[.slice pa puts.length pc, .slice ta takes.length tc] 25)) [.slice none 0 0, .slice none 0 0] 25 (w.heap.size + 1) (by simp); have a0 := A1.at 0 rfl; have a1 := A1.at 1 rfl; have h1 : decide (100 ≤ n) = false := decide_eq_false (by omega); have h2 : ¬ 100 ≤ n := by omega
  have hdoh := Lib.hid hdo; have hRh := Lib.hid hR; have hokh := Lib.hid hok; clear hdo hR hok; go_enter Tryz.func36, Tryz.ntmps36; go_upto_region 4 with (go_at_call 35; (with_reducible refine (whole_any _ pa ta puts.length pc takes.length tc).mono ?_); rintro e w2 ⟨rfl, hB2⟩; have Z2 := (Z1.pure hB2).alloc (.cells #[.int .u8 4, .string ⟨#[]⟩, .int .u64 0, .int .u32 0, .string ⟨#[120]⟩, .string ⟨#[]⟩, .slice pa puts.length pc, .slice ta takes.length tc] 57); have hb2 := hB1.trans (hB2.mono hB1.size); have E2 := Blk.new w2 [.int .u8 4, .string ⟨#[]⟩, .int .u64 0, .int .u32 0, .string ⟨#[120]⟩, .string ⟨#[]⟩, .slice pa puts.length pc, .slice ta takes.length tc] 57; have hT2 := hb2.alloc hb2.size (.cells #[.int .u8 4, .string ⟨#[]⟩, .int .u64 0, .int .u32 0, .string ⟨#[120]⟩, .string ⟨#[]⟩, .slice pa puts.length pc, .slice ta takes.length tc] 57)); have hbw : w.heap.size + 2 ≤ w2.heap.size := by have := hB2.size; simp at this; omega
  obtain ⟨b, hb⟩ : ∃ b, w2.heap.size = b := ⟨_, rfl⟩
  rw [hb] at E2 hbw; generalize (w2.alloc (.cells #[.int .u8 4, .string ⟨#[]⟩, .int .u64 0, .int .u32 0, .string ⟨#[120]⟩, .string ⟨#[]⟩, .slice pa puts.length pc, .slice ta takes.length tc] 57)) = w3 at Z2 E2 hT2 ⊢; rw [hb]; clear a0 a1 hb2 hB2 Z1 A1 hB1 hb zi ze h1 h2; have hpc : puts.length ≤ pc := slc_cap hRh.out.p; have htc : takes.length ≤ tc := slc_cap hRh.out.s; have hlt : (takes.length : Int) ≤ 9223372036854775807 := by have := hRh.out.s.len; obtain ⟨_, _, _, h⟩ := this; have h : takes.length ≤ maxLen := h; unfold maxLen at h; omega
  have hlp : (puts.length : Int) ≤ 9223372036854775807 := by have := hRh.out.p.len; obtain ⟨_, _, _, h⟩ := this; have h : puts.length ≤ maxLen := h; unfold maxLen at h; omega
  have e0 := E2.at 0 rfl; have e1 := E2.at 1 rfl; have e2 := E2.at 2 rfl; have e3 := E2.at 3 rfl; have e4 := E2.at 4 rfl; have e5 := E2.at 5 rfl; have e6 := E2.at 6 rfl; have e7 := E2.at 7 rfl; have f0 := E2.frozen 0; have f1 := E2.frozen 1; have f2 := E2.frozen 2; have f3 := E2.frozen 3; have f4 := E2.frozen 4; have f5 := E2.frozen 5; have f6 := E2.frozen 6; have f7 := E2.frozen 7; go_region; have K4 := Lib.hid (show Blk (((w3.setCell ⟨b, 6, none⟩ (.slice pa puts.length puts.length)).setCell ⟨b, 7, none⟩ (.slice ta takes.length takes.length)).drew) b [.int .u8 4, .string ⟨#[]⟩, .int .u64 0, .int .u32 0, .string ⟨#[120]⟩, .string ⟨#[]⟩, .slice pa puts.length puts.length, .slice ta takes.length takes.length] from (E2.set 6 (.slice pa puts.length puts.length)).set 7 (.slice ta takes.length takes.length)); have hU4 : Upd (fun k => k = b) w3 (((w3.setCell ⟨b, 6, none⟩ (.slice pa puts.length puts.length)).setCell ⟨b, 7, none⟩ (.slice ta takes.length takes.length)).drew) := (upd_one (S := fun k => k = b) (upd_one (S := fun k => k = b) (Upd.refl (fun k => k = b) w3) b 6 (.slice pa puts.length puts.length) rfl) b 7 (.slice ta takes.length takes.length) rfl).drew; have Z4 := Z2.upd hU4 (by show ¬ w.heap.size + 1 = b; omega); have hB4 := Lib.hid (hT2.trans (hU4.below hT2.size (fun k e => by have e : k = b := e; omega))); generalize (((w3.setCell ⟨b, 6, none⟩ (.slice pa puts.length puts.length)).setCell ⟨b, 7, none⟩ (.slice ta takes.length takes.length)).drew) = w4 at K4 hU4 Z4 hB4 ⊢; have hbb : w.heap.size ≤ b := by omega
  clear e0 e1 e2 e3 e4 e5 e6 e7 f0 f1 f2 f3 f4 f5 f6 f7 hU4 hT2 E2 Z2 hlp hlt hpc htc; go_wp2; refine (hdoh.out w4 b hB4.out hbb K4.out).mono ?_; rintro e w5 ⟨rfl, t, P2, K5q, hR5, ht5, hU5⟩; obtain ⟨pb, qb, tb, ub, puts2, takes2, rfl, -, -⟩ := wkrd_open hR5; have K5 : Blk w5 b [.int .u8 4, .string ⟨#[]⟩, .int .u64 0, .int .u32 0, .string ⟨#[120]⟩, .string ⟨#[]⟩, .slice pb puts2.length qb, .slice tb takes2.length ub] := K5q; have Z5 := Z4.upd hU5 (by show ¬ w.heap.size + 1 = b; omega); have hB5 := hB4.out.trans (hU5.below hB4.out.size (fun k e => by have e : k = b := e; omega)); have hown := own_any hPu hGe (WkT.mk (.slice pb puts2.length qb) (.slice tb takes2.length ub) puts2 takes2).en P2 w5 hR5 (by rw [WkT.en_e, ht5]; exact hokh.out) (hT.pure hB5); rw [WkT.en_e, ht5, WkT.en_arg] at hown; have K5lt := Lib.hid K5.lt; have hs5 := Lib.hid hB5.size; have hownh := Lib.hid hown; have a0 := K5.at 0 rfl; have a1 := K5.at 1 rfl; have a2 := K5.at 2 rfl; have a3 := K5.at 3 rfl; have a4 := K5.at 4 rfl; have a5 := K5.at 5 rfl; have a6 := K5.at 6 rfl; have a7 := K5.at 7 rfl; clear hown hR5 ht5 hU5 hF hdoh K4 Z4 hB4; have hne := Nat.ne_of_lt (Nat.lt_of_lt_of_le (Nat.lt_succ_self (w.heap.size + 1)) hbw); have hne' := hne.symm; go_upto_region 6 with fail; go_wp2_with fail; refine hownh.out.mono ?_; rintro e w6 ⟨tr, rfl, hqr, hRr, hB6⟩; obtain ⟨kr, nr, mr, yf, yg, yb, ra, rc, sa, sc, rputs, rtakes, rfl, -, -⟩ := hRr.rd.open; rw [EnT.arg_mk]; have hqh := Lib.hid hqr; clear hqr; have hRh6 := Lib.hid hRr; clear hRr; have K6 := K5.pure hB6; have Z6 := Z5.pure hB6; have f0 := K6.frozen 0; have f1 := K6.frozen 1; have f2 := K6.frozen 2; have f3 := K6.frozen 3; have f4 := K6.frozen 4; have f5 := K6.frozen 5; have f6 := K6.frozen 6; have f7 := K6.frozen 7; have c0 := K6.at 0 rfl; have c1 := K6.at 1 rfl; have c2 := K6.at 2 rfl; have c3 := K6.at 3 rfl; have c4 := K6.at 4 rfl; have c5 := K6.at 5 rfl; have c6 := K6.at 6 rfl; have c7 := K6.at 7 rfl; have z0 := Z6.at 0 rfl; have z1 := Z6.at 1 rfl; have y0 := Z6.frozen 0; have y1 := Z6.frozen 1; clear a0 a1 a2 a3 a4 a5 a6 a7; clear K5 Z5; go_upto_region 7 with fail; have K7 := K6.ent8 (.int .u8 kr) (.string nr) (.int .u64 mr) (.int .u32 yf) (.string yg) (.string yb) (.slice ra rputs.length rc) (.slice sa rtakes.length sc); have hU7 := Upd.ent8 w6 b (.int .u8 kr) (.string nr) (.int .u64 mr) (.int .u32 yf) (.string yg) (.string yb) (.slice ra rputs.length rc) (.slice sa rtakes.length sc); have Z7 := Z6.upd hU7 hne; have hB7 := ent8_below (hB5.trans (hB6.mono hB5.size)) (B := b) hbb (.int .u8 kr) (.string nr) (.int .u64 mr) (.int .u32 yf) (.string yg) (.string yb) (.slice ra rputs.length rc) (.slice sa rtakes.length sc); have hT7 := Lib.hid ((hRh6.out.upd hU7 (fun k hk e => by have e : k = b := e; have := K5lt.out; omega))); unfold ent8 at K7 hU7 Z7 hB7 hT7; generalize ((((((((w6.setCell ⟨b, 0, none⟩ (.int .u8 kr)).setCell ⟨b, 1, none⟩ (.string nr)).setCell ⟨b, 2, none⟩ (.int .u64 mr)).setCell ⟨b, 3, none⟩ (.int .u32 yf)).setCell ⟨b, 4, none⟩ (.string yg)).setCell ⟨b, 5, none⟩ (.string yb)).setCell ⟨b, 6, none⟩ (.slice ra rputs.length rc)).setCell ⟨b, 7, none⟩ (.slice sa rtakes.length sc)) = w7 at K7 hU7 Z7 hB7 hT7 ⊢; clear c0 c1 c2 c3 c4 c5 c6 c7 f0 f1 f2 f3 f4 f5 f6 f7 z0 z1 y0 y1 hU7 hRh6 K6 Z6 hB6 hB5; have r6 := K7.at 6 rfl; have r7 := K7.at 7 rfl; have z0 := Z7.at 0 rfl; have z1 := Z7.at 1 rfl; have y0 := Z7.frozen 0; have y1 := Z7.frozen 1; have Z8 := Z7.wk2 (.slice ra rputs.length rc) (.slice sa rtakes.length sc); have hU8 := Upd.wk2 w7 (w.heap.size + 1) (.slice ra rputs.length rc) (.slice sa rtakes.length sc); have hB8 := wk2_below hB7 (B := w.heap.size + 1) (Nat.le_succ _) (.slice ra rputs.length rc) (.slice sa rtakes.length sc); have hT8 := Lib.hid ((hT7.out.upd hU8 (fun k hk e => by have e : k = w.heap.size + 1 := e; have := K5lt.out; omega)).base hs5.out); have k0 := Z8.at 0 rfl; have k1 := Z8.at 1 rfl; unfold wk2 at k0 k1 hB8 hT8; go_wp2; refine bodyPost_ret (by simp [results, Tryz.results36, go_sem, k0, k1]; rfl) rfl ?_; have he : (⟨rputs.map PtT.p, rtakes⟩ : Wk) = W2 := by have := hqh.out; unfold EnT.e Wk.whole at this; injection this with _ _ _ _ h1 h2; obtain ⟨p, q⟩ := W2; exact congr (congrArg Wk.mk h1) h2
  exact ⟨WkT.mk (.slice ra rputs.length rc) (.slice sa rtakes.length sc) rputs rtakes, rfl, he, hT8.out.work, hB8⟩
theorem info_putW : (Tryz.prog.info? 35).map (fun i => (i.zero, i.size, i.bytes)) = some (some (.agg #[.string ⟨#[]⟩, .int .u64 0, .string ⟨#[]⟩, .bool false, .bool false, .string ⟨#[]⟩, .int .u8 0, .int .u64 0, .string ⟨#[]⟩, .slice none 0 0, .slice none 0 0, .string ⟨#[]⟩]), 12, 160) := by kernel_rfl
theorem elem_putW : ElemT Tryz.prog 22 35 12 160 := ElemT.mk' Tryz.underlying22 info_putW rfl (by omega)
theorem info_refW : (Tryz.prog.info? 37).map (fun i => (i.zero, i.size, i.bytes)) = some (some (.agg #[.string ⟨#[]⟩, .int .u64 0]), 2, 24) := by kernel_rfl
theorem elem_refW : ElemT Tryz.prog 23 37 2 24 := ElemT.mk' Tryz.underlying23 info_refW rfl (by omega)
theorem slc_clip {α : Type} {enc : α → List Value} {m : Nat} {w : World} {a : Option Addr} {n c : Nat} {L : List α} (h : Slc enc m w (.slice a n c) L) : Slc enc m w (.slice a n n) L := by
  rcases h with ⟨a', c', hv, h1, rfl⟩ | ⟨g, off, cap, hv, h1, h2, h3⟩
  · simp only [Value.slice.injEq] at hv; obtain ⟨rfl, rfl, rfl⟩ := hv; exact .inl ⟨_, 0, rfl, Nat.zero_le _, rfl⟩
  · simp only [Value.slice.injEq] at hv; obtain ⟨rfl, rfl, rfl⟩ := hv; exact .inr ⟨g, off, _, rfl, Nat.le_refl _, Nat.le_trans h1 h2, h3⟩
theorem pt_one {P : Nat → Prop} {w : World} {p : PtT} (h : Rd P w p.pr.app) : ∀ v ∈ ptEnc p, v.oneCell' = true := by
  obtain ⟨uk, un, us, uka, ukc, ula, ulc, uks, ul, he, -⟩ := h.open; obtain ⟨q, id, ⟨key, dur, red, mid, app⟩, body⟩ := p; have he : app = _ := he; subst he; simp [ptEnc, VT.k, VT.n, VT.s, VT.kv, VT.lv, Value.oneCell']
/-- append of one element onto a slice that is full: in a block of its own. -/
theorem wpList_app1_full {α : Type} {enc : α → List Value} {m bytes : Nat} {P : Program} {w : World} {ops : Array Oper} {rest : List Oper} {o : Oper} {a : Act} {Q : Exit → Act → World → Prop}
    (hgd : o.guard = none) (s x : Operand) (t e : TypeId) (ho : o.op = .call { callee := .builtin .append, args := #[s, x], argTypes := #[t, t] })
    (hE : ElemT P t e m bytes) (hm : ∀ x, (enc x).length = m) (ao : Option Addr) (n : Nat) (L : List α) (hs : a.eval s = .slice ao n n) (hL : Slc enc m w (.slice ao n n) L)
    (g cap : Nat) (y : α) (hone : ∀ u ∈ enc y, u.oneCell' = true) (hx : a.eval x = .slice (some ⟨g, 0, none⟩) 1 cap) (hy : ∀ j u, (enc y)[j]? = some u → w.cell? ⟨g, j, none⟩ = some u)
    (hbytes : (L.length + 1) * bytes ≤ 140737488355328) (hlen : L.length + 1 ≤ maxLen)
    (h : ∀ v' w', Own w.heap.size e m enc w' v' (L ++ [y]) → w.grownBy w' none → wpList P ops Q rest (a.put o.dst v') w') :
    wpList P ops Q (o :: rest) a w := by
  obtain ⟨i, z, hi, hz, hsize, hby, hzs⟩ := hE.ex; have hn : n = L.length := by obtain ⟨a', c', hv, _⟩ := hL.len; simp only [Value.slice.injEq] at hv; exact hv.2.1
  subst hn; refine wpList_append_grows w hgd s x t ho e i z m bytes hE.ht hi hz hsize hby hzs hE.pos ao L.length L.length (L.flatMap enc) hs ?_ (flat_len hm L) ?_ ⟨g, 0, none⟩ 1 cap (enc y) hx (by rw [hm]; omega) ?_ hone (Nat.lt_succ_self _) hlen hbytes ?_
  · intro e0; rcases hL with ⟨_, _, _, _, rfl⟩ | ⟨_, _, _, hv, _⟩
    · exact ⟨rfl, rfl⟩
    · rw [e0] at hv; simp at hv
  · intro b hb j u hu; subst hb; have hj : j < L.length * m := by rw [← flat_len hm L]; exact (List.getElem?_eq_some_iff.1 hu).1
    have hi' : j / m < L.length := Nat.div_lt_of_lt_mul (by rw [Nat.mul_comm]; exact hj); have hjm : j / m * m + j % m = j := by rw [Nat.mul_comm]; exact Nat.div_add_mod j m
    have hlt : j % m < (enc L[j / m]).length := by rw [hm]; exact Nat.mod_lt _ hE.pos
    have h1 := flat_get hm L (j / m) hi' (j % m) (enc L[j / m])[j % m] (List.getElem?_eq_getElem hlt); rw [hjm, hu] at h1; rcases hL with ⟨_, _, _, _, rfl⟩ | ⟨g', off, cap', hv, _, _, h3⟩
    · simp at hi'
    · simp only [Value.slice.injEq, Option.some.injEq] at hv; obtain ⟨rfl, _, _⟩ := hv; have h2 := h3 (j / m) hi' (j % m) u (by rw [List.getElem?_eq_getElem hlt]; exact h1.symm); have e1 : (⟨g', off, none⟩ : Addr).add j = ⟨g', off + j / m * m + j % m, none⟩ := by rw [Nat.add_assoc, hjm]; unfold Addr.add; split <;> simp_all
      rw [e1]; exact h2
  · intro j u hu; have e1 : (⟨g, 0, none⟩ : Addr).add j = ⟨g, j, none⟩ := by unfold Addr.add; split <;> simp_all
    rw [e1]; exact hy j u hu
  · intro v' w' h1 h2; exact h v' w' (by unfold Own; rw [List.length_append, List.flatMap_append]; simpa using h1) h2
set_option maxRecDepth 100000 in
set_option maxHeartbeats 6400000 in
theorem addput1_any (u : World) (b q : Nat) (pa ta : Option Addr) (puts : List PtT) (takes : List Rf) (P : Nat → Prop) (p : PtT) (Q : Nat → Prop) (hE : Blk u b (wkCells (.slice pa puts.length puts.length) (.slice ta takes.length takes.length)))
    (hR : WkRd P u ⟨.slice pa puts.length puts.length, .slice ta takes.length takes.length, puts, takes⟩) (hP : ∀ k, P k → k ≠ b) (hne : q ≠ b) (hQ : Blk u q [.string p.q, .int .u64 p.id, .string p.pr.key, .bool p.pr.dur, .bool p.pr.red, .string p.pr.mid, .int .u8 p.pr.app.k, .int .u64 p.pr.app.n, .string p.pr.app.s, p.pr.app.kv, p.pr.app.lv, .string p.body]) (hRp : Rd Q u p.pr.app) (hQb : ∀ k, Q k → k ≠ b) (hwf : 0 ≤ p.id ∧ p.id < 18446744073709551616) (hl : puts.length < 100) :
    Calls Tryz.prog 37 #[.pointer (some ⟨b, 0, none⟩), .pointer (some ⟨q, 0, none⟩)] u fun e u' => e = .returned (.tuple #[]) ∧ ∃ (t : WkT) (P2 : Nat → Prop), Blk u' b (wkCells t.pv t.tv) ∧ WkRd P2 u' t ∧ t.w = ⟨puts.map PtT.p ++ [p.p], takes⟩ ∧ Upd (fun k => k = b) u u' := by
  have hRh := Lib.hid hR; have hone : ∀ v ∈ ptEnc p, v.oneCell' = true := pt_one hRp
  have hlh := Lib.hid hl; have hneh := Lib.hid hne; have hL0 : Slc ptEnc 12 u (.slice pa puts.length puts.length) puts := hR.p; have hL : Slc ptEnc 12 u.drew (.slice pa puts.length puts.length) puts := hL0; have hPh := Lib.hid hP; clear hR hl hne hL0 hP; go_enter Tryz.func37, Tryz.ntmps37; go_wp2; have hb : Upd (fun k => k = b) u u.drew := (Upd.refl (fun k => k = b) u).drew; have hB0 : Below u.heap.size u u.drew := (Below.refl u.heap.size u).drew; refine wp_region_held_drew (S := fun v => Upd (fun k => k = b) u v) (by kernel_rfl) hb (fun hHeld => ?_); refine takeY 0 3 rfl rfl (v := ?_) ?_ hHeld ?_
  rotate_left 1
  · (intro v hSw; (try dsimp only at hSw); clear hSw; go_simp; (try with_reducible rfl))
  (try simp only [Act.put, lsT, lsZ, lsS]); refine takeY 1 4 rfl rfl (v := ?_) ?_ hHeld ?_
  rotate_left 1
  · (intro v hSw; (try dsimp only at hSw); clear hSw; go_simp; (try with_reducible rfl))
  (try simp only [Act.put, lsT, lsZ, lsS]); refine takeY 2 5 rfl rfl (v := ?_) ?_ hHeld ?_
  rotate_left 1
  · (intro v hSw; (try dsimp only at hSw); clear hSw; go_simp; (try with_reducible rfl))
  (try simp only [Act.put, lsT, lsZ, lsS]); refine takeY 3 6 rfl rfl (v := ?_) ?_ hHeld ?_
  rotate_left 1
  · (intro v hSw; (try dsimp only at hSw); clear hSw; go_simp; (try with_reducible rfl))
  (try simp only [Act.put, lsT, lsZ, lsS]); refine takeY 5 8 rfl rfl (v := ?_) ?_ hHeld ?_
  rotate_left 1
  · (intro v hSw; (try dsimp only at hSw); have c := hQ.upd hSw hneh.out; have c0 := c.at 0 rfl; have c1 := c.at 1 rfl; have c2 := c.at 2 rfl; have c3 := c.at 3 rfl; have c4 := c.at 4 rfl; have c5 := c.at 5 rfl; have c6 := c.at 6 rfl; have c7 := c.at 7 rfl; have c8 := c.at 8 rfl; have c9 := c.at 9 rfl; have c10 := c.at 10 rfl; have c11 := c.at 11 rfl; clear c; clear hSw; go_simp; (try with_reducible rfl))
  (try simp only [Act.put, lsT, lsZ, lsS]); refine wpAnyH_ready (rs := [4, 6]) (by kernel_rfl) (by simp) ?_; refine AllReadyH.cons rfl (fun Kq hKq => ?_) (AllReadyH.cons rfl (fun Kq hKq => ?_) AllReadyH.nil); have hb2 : Below u.heap.size u (u.drew.alloc (.cells #[.string p.q, .int .u64 p.id, .string p.pr.key, .bool p.pr.dur, .bool p.pr.red, .string p.pr.mid, .int .u8 p.pr.app.k, .int .u64 p.pr.app.n, .string p.pr.app.s, p.pr.app.kv, p.pr.app.lv, .string p.body] 35)) := hB0.alloc hB0.size _; have N := Blk.new u.drew [.string p.q, .int .u64 p.id, .string p.pr.key, .bool p.pr.dur, .bool p.pr.red, .string p.pr.mid, .int .u8 p.pr.app.k, .int .u64 p.pr.app.n, .string p.pr.app.s, p.pr.app.kv, p.pr.app.lv, .string p.body] 35
  focus
    have c0 := hE.at 6 rfl; go_simp; refine hKq.out _ _ hb (fun hHeld => ?_); clear hKq Kq c0; (try simp only [Act.put, lsT, lsZ, lsS]); refine wpAnyH_ready (rs := [6]) (by kernel_rfl) (by simp) ?_; refine AllReadyH.cons rfl (fun Kq hKq => ?_) AllReadyH.nil; go_simp; refine hKq.out _ _ (Upd.of_below hb2) (fun hHeld => ?_); clear hKq Kq
  rotate_left 1
  have hb2 : Below u.heap.size u (u.drew.alloc (.cells #[.string p.q, .int .u64 p.id, .string p.pr.key, .bool p.pr.dur, .bool p.pr.red, .string p.pr.mid, .int .u8 p.pr.app.k, .int .u64 p.pr.app.n, .string p.pr.app.s, p.pr.app.kv, p.pr.app.lv, .string p.body] 35)) := hB0.alloc hB0.size _; have N := Blk.new u.drew [.string p.q, .int .u64 p.id, .string p.pr.key, .bool p.pr.dur, .bool p.pr.red, .string p.pr.mid, .int .u8 p.pr.app.k, .int .u64 p.pr.app.n, .string p.pr.app.s, p.pr.app.kv, p.pr.app.lv, .string p.body] 35
  focus
    go_simp; refine hKq.out _ _ (Upd.of_below hb2) (fun hHeld => ?_); clear hKq Kq; (try simp only [Act.put, lsT, lsZ, lsS]); refine wpAnyH_ready (rs := [4]) (by kernel_rfl) (by simp) ?_; refine AllReadyH.cons rfl (fun Kq hKq => ?_) AllReadyH.nil; have c0 := (hE.alloc (.cells #[.string p.q, .int .u64 p.id, .string p.pr.key, .bool p.pr.dur, .bool p.pr.red, .string p.pr.mid, .int .u8 p.pr.app.k, .int .u64 p.pr.app.n, .string p.pr.app.s, p.pr.app.kv, p.pr.app.lv, .string p.body] 35)).at 6 rfl; go_simp; refine hKq.out _ _ (Upd.of_below hb2) (fun hHeld => ?_); clear hKq Kq c0
  all_goals
    (try simp only [Act.put, lsT, lsZ, lsS]); refine wpAnyH_ready (rs := [7]) (by kernel_rfl) (by simp) ?_; refine AllReadyH.cons rfl (fun Kq hKq => ?_) AllReadyH.nil; refine step_of_list rfl (wpList_app1_full rfl (.tmp 7) (.tmp 9) 22 35 rfl elem_putW ptEnc_len _ _ puts rfl (hL.pure ((Below.refl u.drew.heap.size u.drew).alloc (Nat.le_refl _) _)) u.heap.size 1 p hone rfl (fun j v hv => (N.cell j).trans hv) (by have := hlh.out; omega) (by have := hlh.out; unfold maxLen; omega) ?_); intro v1 w1 hO hg; refine ⟨rfl, ?_⟩; obtain ⟨na, nn, nc, rfl⟩ := hO.shape3; have hb3 : Below u.heap.size u w1 := hb2.grown hg hb2.size (fun k e => by simp at e); refine hKq.out _ _ (Upd.of_below hb3) (fun hHeld => ?_); clear hKq Kq; (try simp only [Act.put, lsT, lsZ, lsS]); refine takeY 8 11 rfl rfl (v := ?_) ?_ hHeld ?_
    rotate_left 1
    · (intro v hSw; (try dsimp only at hSw); clear hSw; go_simp; (try with_reducible rfl))
    (try simp only [Act.put, lsT, lsZ, lsS]); refine takeY 9 12 rfl rfl (v := ?_) ?_ hHeld ?_
    rotate_left 1
    · (intro v hSw; (try dsimp only at hSw); clear hSw; go_simp; (try with_reducible rfl))
    (try simp only [Act.put, lsT, lsZ, lsS]); have E1 := hE.pure hb3; have e0 := E1.at 6 rfl; have f0 := E1.frozen 6; have hOh := Lib.hid hO; have hU : Upd (fun k => k = b) u (w1.setCell ⟨b, 6, none⟩ (.slice na nn nc)) := upd_one (S := fun k => k = b) (Upd.of_below hb3) b 6 (.slice na nn nc) rfl; have K2 : Blk (w1.setCell ⟨b, 6, none⟩ (.slice na nn nc)) b (wkCells (.slice na nn nc) (.slice ta takes.length takes.length)) := E1.set 6 (.slice na nn nc); refine wpAnyH_ready (rs := [10]) (by kernel_rfl) (by simp) ?_; refine AllReadyH.cons rfl (fun Kq hKq => ?_) AllReadyH.nil; go_simp; refine hKq.out _ _ hU (fun hHeld => ?_); clear hKq Kq hHeld; (try simp only [Act.put, lsT, lsZ, lsS]); refine wpAnyH_done (by kernel_rfl) ?_ _; have hbl := hE.lt; go_end0; refine ⟨rfl, ⟨.slice na nn nc, .slice ta takes.length takes.length, puts ++ [p], takes⟩, fun _ => True, K2, ?_, (by unfold WkT.w; simp), hU⟩; have hO2 := (hOh.out.other (p := ⟨b, 6, none⟩) (u := .slice na nn nc) (fun k hk e => by have h1 := hOh.out.ge hk; have e : k = b := e; simp at h1; omega)).slc ptEnc_len; have hR2 := hRh.out.upd hU (fun k hk => hPh.out k hk); exact ⟨hO2, fun k _ _ => trivial, fun y hy => (List.mem_append.1 hy).elim (fun h => (hR2.r y h).weaken (fun _ _ _ => trivial)) (fun h => by rw [List.mem_singleton.1 h]; exact (hRp.upd hU hQb).weaken (fun _ _ _ => trivial)), hR2.s, fun k _ _ => trivial, ⟨hR2.wf.k0, hR2.wf.k1, hR2.wf.n0, hR2.wf.n1, hR2.wf.x0, hR2.wf.x1, fun y hy => by simp only [EnT.e, WkT.en, List.map_append, List.map_cons, List.map_nil] at hy; exact (List.mem_append.1 hy).elim (fun h => hR2.wf.p y h) (fun h => by rw [List.mem_singleton.1 h]; exact ⟨hwf.1, hwf.2, hRp.wf⟩), hR2.wf.t⟩⟩
set_option maxRecDepth 100000 in
set_option maxHeartbeats 6400000 in
theorem addtake1_any (u : World) (b q : Nat) (pa ta : Option Addr) (puts : List PtT) (takes : List Rf) (P : Nat → Prop) (r : Rf) (hE : Blk u b (wkCells (.slice pa puts.length puts.length) (.slice ta takes.length takes.length)))
    (hR : WkRd P u ⟨.slice pa puts.length puts.length, .slice ta takes.length takes.length, puts, takes⟩) (hP : ∀ k, P k → k ≠ b) (hne : q ≠ b) (hQ : Blk u q [.string r.q, .int .u64 r.id]) (hwf : 0 ≤ r.id ∧ r.id < 18446744073709551616) (hl : takes.length < 100) :
    Calls Tryz.prog 40 #[.pointer (some ⟨b, 0, none⟩), .pointer (some ⟨q, 0, none⟩)] u fun e u' => e = .returned (.tuple #[]) ∧ ∃ (t : WkT) (P2 : Nat → Prop), Blk u' b (wkCells t.pv t.tv) ∧ WkRd P2 u' t ∧ t.w = ⟨puts.map PtT.p, takes ++ [r]⟩ ∧ Upd (fun k => k = b) u u' := by
  have hRh := Lib.hid hR; have hone : ∀ v ∈ rfEnc r, v.oneCell' = true := rfEnc_one r
  have hlh := Lib.hid hl; have hneh := Lib.hid hne; have hL0 : Slc rfEnc 2 u (.slice ta takes.length takes.length) takes := hR.s; have hL : Slc rfEnc 2 u.drew (.slice ta takes.length takes.length) takes := hL0; have hPh := Lib.hid hP; clear hR hl hne hL0 hP; go_enter Tryz.func40, Tryz.ntmps40; go_wp2; have hb : Upd (fun k => k = b) u u.drew := (Upd.refl (fun k => k = b) u).drew; have hB0 : Below u.heap.size u u.drew := (Below.refl u.heap.size u).drew; refine wp_region_held_drew (S := fun v => Upd (fun k => k = b) u v) (by kernel_rfl) hb (fun hHeld => ?_); refine takeY 0 3 rfl rfl (v := ?_) ?_ hHeld ?_
  rotate_left 1
  · (intro v hSw; (try dsimp only at hSw); clear hSw; go_simp; (try with_reducible rfl))
  (try simp only [Act.put, lsT, lsZ, lsS]); refine takeY 1 4 rfl rfl (v := ?_) ?_ hHeld ?_
  rotate_left 1
  · (intro v hSw; (try dsimp only at hSw); clear hSw; go_simp; (try with_reducible rfl))
  (try simp only [Act.put, lsT, lsZ, lsS]); refine takeY 2 5 rfl rfl (v := ?_) ?_ hHeld ?_
  rotate_left 1
  · (intro v hSw; (try dsimp only at hSw); clear hSw; go_simp; (try with_reducible rfl))
  (try simp only [Act.put, lsT, lsZ, lsS]); refine takeY 3 6 rfl rfl (v := ?_) ?_ hHeld ?_
  rotate_left 1
  · (intro v hSw; (try dsimp only at hSw); clear hSw; go_simp; (try with_reducible rfl))
  (try simp only [Act.put, lsT, lsZ, lsS]); refine takeY 5 8 rfl rfl (v := ?_) ?_ hHeld ?_
  rotate_left 1
  · (intro v hSw; (try dsimp only at hSw); have c := hQ.upd hSw hneh.out; have c0 := c.at 0 rfl; have c1 := c.at 1 rfl; clear c; clear hSw; go_simp; (try with_reducible rfl))
  (try simp only [Act.put, lsT, lsZ, lsS]); refine wpAnyH_ready (rs := [4, 6]) (by kernel_rfl) (by simp) ?_; refine AllReadyH.cons rfl (fun Kq hKq => ?_) (AllReadyH.cons rfl (fun Kq hKq => ?_) AllReadyH.nil); have hb2 : Below u.heap.size u (u.drew.alloc (.cells #[.string r.q, .int .u64 r.id] 37)) := hB0.alloc hB0.size _; have N := Blk.new u.drew [.string r.q, .int .u64 r.id] 37
  focus
    have c0 := hE.at 7 rfl; go_simp; refine hKq.out _ _ hb (fun hHeld => ?_); clear hKq Kq c0; (try simp only [Act.put, lsT, lsZ, lsS]); refine wpAnyH_ready (rs := [6]) (by kernel_rfl) (by simp) ?_; refine AllReadyH.cons rfl (fun Kq hKq => ?_) AllReadyH.nil; go_simp; refine hKq.out _ _ (Upd.of_below hb2) (fun hHeld => ?_); clear hKq Kq
  rotate_left 1
  have hb2 : Below u.heap.size u (u.drew.alloc (.cells #[.string r.q, .int .u64 r.id] 37)) := hB0.alloc hB0.size _; have N := Blk.new u.drew [.string r.q, .int .u64 r.id] 37
  focus
    go_simp; refine hKq.out _ _ (Upd.of_below hb2) (fun hHeld => ?_); clear hKq Kq; (try simp only [Act.put, lsT, lsZ, lsS]); refine wpAnyH_ready (rs := [4]) (by kernel_rfl) (by simp) ?_; refine AllReadyH.cons rfl (fun Kq hKq => ?_) AllReadyH.nil; have c0 := (hE.alloc (.cells #[.string r.q, .int .u64 r.id] 37)).at 7 rfl; go_simp; refine hKq.out _ _ (Upd.of_below hb2) (fun hHeld => ?_); clear hKq Kq c0
  all_goals
    (try simp only [Act.put, lsT, lsZ, lsS]); refine wpAnyH_ready (rs := [7]) (by kernel_rfl) (by simp) ?_; refine AllReadyH.cons rfl (fun Kq hKq => ?_) AllReadyH.nil; refine step_of_list rfl (wpList_app1_full rfl (.tmp 7) (.tmp 9) 23 37 rfl elem_refW rfEnc_len _ _ takes rfl (hL.pure ((Below.refl u.drew.heap.size u.drew).alloc (Nat.le_refl _) _)) u.heap.size 1 r hone rfl (fun j v hv => (N.cell j).trans hv) (by have := hlh.out; omega) (by have := hlh.out; unfold maxLen; omega) ?_); intro v1 w1 hO hg; refine ⟨rfl, ?_⟩; obtain ⟨na, nn, nc, rfl⟩ := hO.shape3; have hb3 : Below u.heap.size u w1 := hb2.grown hg hb2.size (fun k e => by simp at e); refine hKq.out _ _ (Upd.of_below hb3) (fun hHeld => ?_); clear hKq Kq; (try simp only [Act.put, lsT, lsZ, lsS]); refine takeY 8 11 rfl rfl (v := ?_) ?_ hHeld ?_
    rotate_left 1
    · (intro v hSw; (try dsimp only at hSw); clear hSw; go_simp; (try with_reducible rfl))
    (try simp only [Act.put, lsT, lsZ, lsS]); refine takeY 9 12 rfl rfl (v := ?_) ?_ hHeld ?_
    rotate_left 1
    · (intro v hSw; (try dsimp only at hSw); clear hSw; go_simp; (try with_reducible rfl))
    (try simp only [Act.put, lsT, lsZ, lsS]); have E1 := hE.pure hb3; have e0 := E1.at 7 rfl; have f0 := E1.frozen 7; have hOh := Lib.hid hO; have hU : Upd (fun k => k = b) u (w1.setCell ⟨b, 7, none⟩ (.slice na nn nc)) := upd_one (S := fun k => k = b) (Upd.of_below hb3) b 7 (.slice na nn nc) rfl; have K2 : Blk (w1.setCell ⟨b, 7, none⟩ (.slice na nn nc)) b (wkCells (.slice pa puts.length puts.length) (.slice na nn nc)) := E1.set 7 (.slice na nn nc); refine wpAnyH_ready (rs := [10]) (by kernel_rfl) (by simp) ?_; refine AllReadyH.cons rfl (fun Kq hKq => ?_) AllReadyH.nil; go_simp; refine hKq.out _ _ hU (fun hHeld => ?_); clear hKq Kq hHeld; (try simp only [Act.put, lsT, lsZ, lsS]); refine wpAnyH_done (by kernel_rfl) ?_ _; have hbl := hE.lt; go_end0; refine ⟨rfl, ⟨.slice pa puts.length puts.length, .slice na nn nc, puts, takes ++ [r]⟩, fun _ => True, K2, ?_, rfl, hU⟩; have hO2 := (hOh.out.other (p := ⟨b, 7, none⟩) (u := .slice na nn nc) (fun k hk e => by have h1 := hOh.out.ge hk; have e : k = b := e; simp at h1; omega)).slc rfEnc_len; have hR2 := hRh.out.upd hU (fun k hk => hPh.out k hk); exact ⟨hR2.p, fun k _ _ => trivial, fun y hy => (hR2.r y hy).weaken (fun _ _ _ => trivial), hO2, fun k _ _ => trivial, ⟨hR2.wf.k0, hR2.wf.k1, hR2.wf.n0, hR2.wf.n1, hR2.wf.x0, hR2.wf.x1, hR2.wf.p, fun y hy => by simp only [EnT.e, WkT.en] at hy; exact (List.mem_append.1 hy).elim (fun h => hR2.wf.t y h) (fun h => by rw [List.mem_singleton.1 h]; exact hwf)⟩⟩
theorem bytes_beqW (a b : ByteArray) : (a.toList == b.toList) = (a == b) := (beq_toListBytes a b).symm
set_option maxRecDepth 100000 in
set_option maxHeartbeats 800000 in
theorem rf_eql (w : World) (q q2 : ByteArray) (i i2 : Int) : (binOp .eql 37 (.agg #[.string q, .int .u64 i]) (.agg #[.string q2, .int .u64 i2])).run Tryz.prog w = .ok (.bool (sameR ⟨q, i⟩ ⟨q2, i2⟩)) w := by
  have hf : Tryz.prog.fieldsOf 37 = (match Tryz.prog.underlying 37 with | some (.struct fs) => fs | _ => #[]) := rfl; rw [Tryz.underlying37] at hf; simp only at hf
  have e : sameR ⟨q, i⟩ ⟨q2, i2⟩ = (q == q2 && i == i2) := by
    unfold sameR; rw [beq_toListBytes]; congr 1
  rw [e, run_eql_struct, show (10000 : Nat) = 9999 + 1 from rfl, run_equalIn_agg w 9999 _ _ _ (by rw [hf]; exact Tryz.underlying37) (by kernel_rfl), hf]; cases h1 : (q == q2) <;> cases h2 : (i == i2) <;> simp [go_sem, bytes_beqW, h1, h2]
def idxR (o : Option Nat) : Int := match o with | some i => (i : Int) | none => -1
theorem idxR_pos (l : List Rf) (r : Rf) : decide (0 ≤ idxR (l.findIdx? (fun x => sameR r x))) = decide (0 < cntR l r) := by
  rw [Bool.eq_iff_iff, decide_eq_true_iff, decide_eq_true_iff, cntR_pos]
  cases h : l.findIdx? (fun x => sameR r x) with
  | none =>
    rw [List.findIdx?_eq_none_iff] at h; exact ⟨fun h' => by simp [idxR] at h', fun hr => by have := h r hr; rw [sameR_iff.2 rfl] at this; cases this⟩
  | some i =>
    rw [List.findIdx?_eq_some_iff_getElem] at h; obtain ⟨hi, hp, _⟩ := h; exact ⟨fun _ => by rw [sameR_iff.1 hp]; exact List.getElem_mem _, fun _ => by simp [idxR]⟩
set_option maxRecDepth 100000 in
set_option maxHeartbeats 1600000 in
theorem refindex_any (w : World) (ka : Option Addr) (kc : Nat) (ks : List Rf) (r : Rf) (hK : Slc rfEnc 2 w (.slice ka ks.length kc) ks) (hmk : (ks.length : Int) ≤ 9223372036854775807) :
    Calls Tryz.prog 57 #[.slice ka ks.length kc, .agg #[.string r.q, .int .u64 r.id]] w fun e w' => e = .returned (.int .i64 (idxR (ks.findIdx? (fun x => sameR r x)))) ∧ Below w.heap.size w w' := by
  have hB0 := (Below.refl w.heap.size w).alloc (Nat.le_refl _) (.cells #[.string r.q, .int .u64 r.id] 37); have B0 := Blk.new w [.string r.q, .int .u64 r.id] 37; go_enter Tryz.func57, Tryz.ntmps57; go_wp2; go_loopw [8] (fun s8 wr => ∃ (k : Nat), k ≤ ks.length ∧ s8 = .int .i64 k ∧ Hid ((ks.take k).findIdx? (fun x => sameR r x) = none) ∧ Below w.heap.size w wr ∧ Blk wr w.heap.size [.string r.q, .int .u64 r.id]) (fun s8 _ => ks.length - (intOf s8).toNat)
  case atStart => exact ⟨0, by omega, rfl, Lib.hid (by simp), hB0, B0⟩
  case round =>
    obtain ⟨k, hk, rfl, hno, hB, B1⟩ := hrel; clear hB0 B0; by_cases hlt : k < ks.length
    · have hKr := hK.pure hB; obtain ⟨kg, koff, rfl⟩ := hKr.addrB hlt; obtain ⟨q, i, hkx, c0, c1⟩ := rf_elem hKr hlt; obtain ⟨b, hb⟩ : ∃ b, sameR r ⟨q, i⟩ = b := ⟨_, rfl⟩
      have hR := fun (u : World) => (rf_eql u r.q q r.id i).trans (show _ = Result.ok (.bool b) u by rw [← hb])
      have b0 := B1.at 0 rfl; have b1 := B1.at 1 rfl; rw [← hkx] at hb; have hbh := Lib.hid hb; clear hkx hKr hb; cases b
      · go_wp2; go_region; go_wp2; go_roundw
        case rel => exact ⟨k + 1, by omega, by go_num, Lib.hid (findP_no hlt hno.out hbh.out), below_dr hB, B1.drew⟩
        case measure => simp [intOf]; omega
      · go_wp2; go_region; go_wp2; go_ret; refine ⟨?_, below_dr hB⟩; rw [findP_yes hlt hno.out hbh.out]; rfl
    · obtain rfl : k = ks.length := by omega
      go_wp2; go_ret; refine ⟨?_, hB⟩; have := hno.out; rw [List.take_length] at this; rw [this]; rfl
set_option maxRecDepth 100000 in
set_option maxHeartbeats 1600000 in
theorem refcontains_any (w : World) (ka : Option Addr) (kc : Nat) (ks : List Rf) (r : Rf) (hK : Slc rfEnc 2 w (.slice ka ks.length kc) ks) (hmk : (ks.length : Int) ≤ 9223372036854775807) :
    Calls Tryz.prog 39 #[.slice ka ks.length kc, .agg #[.string r.q, .int .u64 r.id]] w fun e w' => e = .returned (.bool (decide (0 < cntR ks r))) ∧ Below w.heap.size w w' := by
  have hB1 := (Below.refl w.heap.size w).alloc (Nat.le_refl _) (.cells #[.string r.q, .int .u64 r.id] 37); have B1 := Blk.new w [.string r.q, .int .u64 r.id] 37; have hix := refindex_any _ ka kc ks r (hK.pure hB1) hmk; rw [← idxR_pos]; generalize idxR (ks.findIdx? (fun x => sameR r x)) = z at hix ⊢; have hixh := Lib.hid hix; have b0 := B1.at 0 rfl; have b1 := B1.at 1 rfl; clear hix hK hmk; go_enter Tryz.func39, Tryz.ntmps39; go_wp2_with (go_at_call 57; (with_reducible refine hixh.out.mono ?_); rintro e w' ⟨rfl, hB2⟩; have hT2 := hB1.trans (hB2.mono hB1.size)); go_ret; exact ⟨rfl, hT2⟩
theorem EnRd.lt {P : Nat → Prop} {w : World} {t : EnT} (h : EnRd P w t) : EnRd (fun k => P k ∧ k < w.heap.size) w t :=
  ⟨h.p, fun k e n => ⟨h.pP k e n, slc_lt ptEnc_len (by omega) h.p n k e⟩, fun x hx => (h.r x hx).lt, h.s, fun k e n => ⟨h.sP k e n, slc_lt rfEnc_len (by omega) h.s n k e⟩, h.wf⟩
theorem slc_one {α : Type} {enc : α → List Value} {m : Nat} {w : World} {g : Nat} {x : α} (hb : Blk w g (enc x)) : Slc enc m w (.slice (some ⟨g, 0, none⟩) 1 1) [x] := by
  refine .inr ⟨g, 0, 1, rfl, Nat.le_refl _, by unfold maxLen; omega, fun i hi j u hu => ?_⟩; have : i = 0 := by simp at hi; omega
  subst this; simp only [Nat.zero_mul, Nat.zero_add]; rw [hb.cell]; exact hu
theorem one_put {P : Nat → Prop} {w : World} {g : Nat} {p : PtT} (hb : Blk w g (ptEnc p)) (hR : Rd P w p.pr.app) (hi : 0 ≤ p.id ∧ p.id < 18446744073709551616) : WkRd (fun _ => True) w (WkT.mk (.slice (some ⟨g, 0, none⟩) 1 1) (.slice none 0 0) [p] []) :=
  ⟨slc_one hb, fun _ _ _ => trivial, fun x hx => by rw [List.mem_singleton.1 hx]; exact hR.weaken (fun _ _ _ => trivial), Slc.nil _ _ _, fun _ _ _ => trivial,
   ⟨(by show (0 : Int) ≤ 4; omega), (by show (4 : Int) < 256; omega), (by show (0 : Int) ≤ 0; omega), (by show (0 : Int) < 18446744073709551616; omega), (by show (0 : Int) ≤ 0; omega), (by show (0 : Int) < 4294967296; omega),
    (fun x hx => by have hx : x ∈ [p.p] := hx; rw [List.mem_singleton.1 hx]; exact ⟨hi.1, hi.2, hR.wf⟩), (fun x hx => by have hx : x ∈ ([] : List Rf) := hx; cases hx)⟩⟩
theorem one_take {w : World} {g : Nat} {r : Rf} (hb : Blk w g (rfEnc r)) (hi : 0 ≤ r.id ∧ r.id < 18446744073709551616) : WkRd (fun _ => True) w (WkT.mk (.slice none 0 0) (.slice (some ⟨g, 0, none⟩) 1 1) [] [r]) :=
  ⟨Slc.nil _ _ _, fun _ _ _ => trivial, (fun x hx => by cases hx), slc_one hb, fun _ _ _ => trivial,
   ⟨(by show (0 : Int) ≤ 4; omega), (by show (4 : Int) < 256; omega), (by show (0 : Int) ≤ 0; omega), (by show (0 : Int) < 18446744073709551616; omega), (by show (0 : Int) ≤ 0; omega), (by show (0 : Int) < 4294967296; omega),
    (fun x hx => by have hx : x ∈ ([] : List Pt) := hx; cases hx), (fun x hx => by have hx : x ∈ [r] := hx; rw [List.mem_singleton.1 hx]; exact hi)⟩⟩
theorem chk_one_put (p : Pt) : (Wk.mk [p] []).whole.chk = if Pt.okB false p then 0 else 130 := by
  unfold En.chk; rw [whole_okB]; simp
theorem chk_one_take (r : Rf) : (Wk.mk [] [r]).whole.chk = if Rf.okB r then 0 else 130 := by
  unfold En.chk; rw [whole_okB]; simp
end Go.Proofs.YtlonokcaddpniaaGreatDoor
