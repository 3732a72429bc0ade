/- How the law StoreLocked's message's name is opened. Conditions: none. (Texts joined.) -/
import Derived.Test.YtgnaifhmcllnlaaGreatDoorB14
import Derived.Test.YtgnaifhmcllnlaaGreatDoorRows
import Derived.PinnedBridge
import Derived.Lay
import Derived.Deep.DeepHandedRow
set_option maxRecDepth 100000
set_option maxHeartbeats 25600000
set_option linter.unusedSimpArgs false
set_option linter.unusedVariables false
namespace Go.Proofs.YtgnaifhmcllnlaaGreatDoor
open Go.RowKit _root_.Go.Proofs.Tryz
theorem bfg {A D : Type} {c : D → D → Int} {k : A → D} {p : A → Bool} {L : List A} {j : Nat} (F : j < L.length) (h : p L[j] = false ∨ (∃ E : 0 < j, 0 ≤ c (k (L[j - 1]'(by omega))) (k L[j]))) : (L.all p && aia c k L) = false := by
 cases hq : (L.all p && aia c k L) with
 | false => rfl
 | true =>
  have := (beq.1 hq) j F; rcases h with h | ⟨E, h⟩
  ·rw [this.1] at h; cases h
  ·exact jp (this.2 E) (by omega)
def brP (qs : List Qu) (l : List Rf) (b : Br) : Bool := b.en.okB && b.zu.all (fun p => ad0 qs p.q) && b.zy.all (fun r => hasM qs r && decide (aa8 l r = 1))
def heP (zk : List Br) (h : He) : Bool := Xn.okB h.x && !amu zk h.x
theorem bg3 (qs : List Qu) (zk : List Br) : ane qs zk = (zk.all (brP qs (ace zk)) && aia aav Br.x zk) := by
 unfold ane brP aem
 rw [Bool.eq_iff_iff]
 simp only [jj, jt, qm]
 constructor
 ·rintro ⟨⟨E, I⟩, F⟩
  refine ⟨fun b D => ⟨(E b D).1, fun r A => ⟨(E b D).2 r A, ?_⟩⟩, F⟩; have G : r ∈ ace zk := List.mem_flatMap.2 ⟨b, D, A⟩; have := I r G; have := abq.2 G; omega
 ·rintro ⟨E, F⟩
  refine ⟨⟨fun b D => ⟨(E b D).1, fun r A => ((E b D).2 r A).1⟩, fun r A => ?_⟩, F⟩; obtain ⟨b, D, A⟩ := List.mem_flatMap.1 A; have := ((E b D).2 r A).2; omega
theorem bhb (s : St) : s.chk = if (!decide (s.next < 1) && !decide (1099511627777 < s.next) && qsB s.next s.qs && (s.zk.all (brP s.qs (ace s.zk)) && aia aav Br.x s.zk) && (s.hs.all (heP s.zk) && aia aav He.x s.hs)) = true then 0 else 140 := by
 unfold St.chk St.okB
 rw [bg3, show hsB s.zk s.hs = (s.hs.all (heP s.zk) && aia aav He.x s.hs) from rfl, show decide (1 ≤ s.next) = !decide (s.next < 1) by rw [← decide_not]; exact decide_eq_decide.2 (by omega), show decide (s.next ≤ 1099511627777) = !decide (1099511627777 < s.next) by rw [← decide_not]; exact decide_eq_decide.2 (by omega)]
theorem bhc {s : St} {n : ByteArray} : decide (quI s n < 0) = !ad0 s.qs n := by
 have h : 0 ≤ quI s n ↔ ad0 s.qs n = true := by unfold quI ad0; rw [be0, List.any_eq_true]
 cases hc : ad0 s.qs n with
 | true => have := h.2 hc; exact qg (by omega)
 | false => rw [hc] at h; exact qp (by have := mt h.1 (by simp); omega)
theorem bhd {s : St} {x : Xn} : decide (0 ≤ brI s x) = amu s.zk x := by
 have h : 0 ≤ brI s x ↔ amu s.zk x = true := by unfold brI amu; rw [be0, List.any_eq_true]
 rw [Bool.eq_iff_iff, qm]; exact h
theorem bhe {s : St} {r : Rf} (M : qsB s.next s.qs = true) : decide (msI s r < 0) = !hasM s.qs r := by
 have h : 0 ≤ msI s r ↔ hasM s.qs r = true := by
  unfold msI hasM; rw [List.any_eq_true]; have I := (ad4 cmpB_ok).1 (jj _ _ ▸ (show (s.qs.all (Qu.okB s.next) && aia abf Qu.name s.qs) = true from M)).2; by_cases J : 0 ≤ quI s r.q
  ·obtain ⟨k, G, E, D⟩ := be6 J
   have D : s.qs[k].name = r.q := qt D; have G : quI s r.q = (k : Int) := G; rw [G, qk (by omega), Int.toNat_natCast, List.getD_eq_getElem?_getD, List.getElem?_eq_getElem E, be0]; show (∃ m ∈ s.qs[k].zw, _) ↔ _
   constructor
   ·rintro ⟨m, N, A⟩
    exact ⟨s.qs[k], qy E, by rw [qp D]; exact List.any_eq_true.2 ⟨m, N, A⟩⟩
   ·rintro ⟨q, F, A⟩
    rw [jj, qm] at A; obtain ⟨j, K, rfl⟩ := List.getElem_of_mem F; have O : abf r.q r.q = 0 := (cmpB_ok.eq _ _).2 rfl; rcases Nat.lt_trichotomy j k with e | rfl | e
    ·have := List.pairwise_iff_getElem.1 I j k K E e; rw [D, A.1] at this; omega
    ·exact List.any_eq_true.1 A.2
    ·have := List.pairwise_iff_getElem.1 I k j E K e; rw [D, A.1] at this; omega
  ·rw [qw (by omega)]
   refine ⟨fun h => by omega, ?_⟩; rintro ⟨q, F, A⟩; rw [jj] at A; exact jp (be0.2 ⟨q, F, A.1⟩) J
 cases hc : hasM s.qs r with
 | true => have := h.2 hc; exact qg (by omega)
 | false => rw [hc] at h; exact qp (by have := mt h.1 (by simp); omega)
theorem bhf {b : Br} (h : b.en.okB = true) : b.x.2.1.size ≤ 64 ∧ b.x.2.2.size ≤ 64 := by
 unfold En.okB at h
 simp only [jj] at h
 have h := h.1.1.1.1.1.2
 rw [qw (show uX b.en.kind = true from (by decide : uX 4 = true))] at h
 unfold Xn.okB at h
 simp at h
 exact ⟨h.1.2, h.2⟩
theorem bhg {x : Xn} (h : Xn.okB x = true) : x.2.1.size ≤ 64 ∧ x.2.2.size ≤ 64 := by
 unfold Xn.okB at h
 simp at h
 exact ⟨h.1.2, h.2⟩
theorem bf6 {A : Type} {p : A → Bool} {L : List A} {k : Nat} (D : k < L.length) (h : (L.take k).all p = true) (E : p L[k] = true) : (L.take (k + 1)).all p = true := by
 rw [jx D, List.all_append, h]; simp [E]
theorem bgh {A : Type} {p : A → Bool} {L : List A} {k : Nat} (E : k < L.length) (D : p L[k] = false) : L.all p = false := by
 cases h : L.all p with
 | false => rfl
 | true => rw [jt] at h; rw [h _ (qy E)] at D; cases D
theorem bhh {t : EnT} (h : SmEn t) : t.e.Sz :=
 ⟨by have := h.name; show (t.name.size : Int) < _; omega, fun p E => by obtain ⟨x, D, rfl⟩ := jv.1 E; have := (h.zu x D).q; show (x.q.size : Int) < _; omega, fun r A => by have := h.zy r A; omega⟩
theorem bhi {e : En} : (e.chk != 0) = !e.okB := by unfold En.chk; cases e.okB <;> rfl
theorem bhj {b : Bool} : ((if b = true then (0 : Int) else 40) != 0) = !b := by cases b <;> rfl
theorem bfm {P : Prop} (h : P := by
 go_wp2
 go_ret
 exact ⟨by first | rfl | (rw [hfin.out]; rfl), hAB.trans ((hBe.trans (hCd.mono hBe.size)).mono hAB.size)⟩) : P := h
theorem bfn {P : Prop} (h : P := by
 have hfin := qq (show R = 140 by rw [hRl.out]; simp)
 go_wp2
 go_ret
 exact ⟨by first | rfl | (rw [hfin.out]; rfl), hB1⟩) : P := h
theorem bfu (w : World) (t : StT) (P : Nat → Prop) (hR : StRd P w t) (hS : SmSt t) : Calls prog 16 #[t.arg] w fun e N => e = .returned (.int .i64 t.s.chk) ∧ Below w.heap.size w N := by
 obtain ⟨nx, qa, qc, ba, Z, X, Y, qs, zk, hs, rfl, -, -, -⟩ := hR.open
 rw [StT.arg_mk]
 have hB1 := (qz w.heap.size w).alloc (qj _) (.cells #[.int .u64 nx, .slice qa qs.length qc, .slice ba zk.length Z, .slice X hs.length Y] 27)
 have A1 := Blk.new w [.int .u64 nx, .slice qa qs.length qc, .slice ba zk.length Z, .slice X hs.length Y] 27
 have aj := qq (hR.pure hB1)
 have ay := qq hS
 have eq : (zk.length : Int) ≤ 12 := by have : zk.length ≤ 12 := hS.b; omega
 have ep : (hs.length : Int) ≤ 40 := by have : hs.length ≤ 40 := hS.h; omega
 obtain ⟨s, az⟩ : ∃ s : St, (StT.mk nx (.slice qa qs.length qc) (.slice ba zk.length Z) (.slice X hs.length Y) qs zk hs).s = s := ⟨_, rfl⟩
 have ce := qq (show s.zk = zk.map BrT.b by rw [← az]; rfl)
 have cd := qq (show s.hs = hs by rw [← az]; rfl)
 have bh := qq az
 rw [az]
 obtain ⟨R, ct⟩ := qx s.chk
 rw [ct]
 obtain ⟨v1, dr⟩ := qx (decide (nx < 1))
 obtain ⟨v2, cp⟩ := qx (decide (1099511627777 < nx))
 obtain ⟨v3, cn⟩ := qx (qsB s.next s.qs)
 obtain ⟨v4, bw⟩ := qx (s.zk.all (brP s.qs (ace s.zk)) && aia aav Br.x s.zk)
 obtain ⟨v5, bt⟩ := qx (s.hs.all (heP s.zk) && aia aav He.x s.hs)
 have hRl := qq (show R = if (!v1 && !v2 && v3 && v4 && v5) = true then 0 else 140 by rw [← ct, bhb, cn, bw, bt, show s.next = nx by rw [← az]; rfl, dr, cp])
 have dh := qq cn; have bj := qq bw; have cb := qq bt
 clear hR hS az ct cn bw bt
 go_enter func16, ntmps16
 go_upto_region 1 with fail
 obtain ⟨u, hu⟩ := zj (w.alloc (.cells #[.int .u64 nx, .slice qa qs.length qc, .slice ba zk.length Z, .slice X hs.length Y] 27))
 rw [← hu] at hB1 A1 aj ⊢
 clear hu
 have dl : ∀ v, Below u.heap.size u v → Calls prog 54 #[.agg #[.int .u64 nx, .slice qa qs.length qc, .slice ba zk.length Z, .slice X hs.length Y]] v fun e N => e = .returned (.bool v3) ∧ Below v.heap.size v N := fun v J => by
  rw [← dh.out, ← bh.out]; exact bfy v (StT.mk nx (.slice qa qs.length qc) (.slice ba zk.length Z) (.slice X hs.length Y) qs zk hs) P (aj.out.pure J) ay.out
 have dw : ∀ v, Below u.heap.size u v → ∀ n, Calls prog 56 #[.agg #[.int .u64 nx, .slice qa qs.length qc, .slice ba zk.length Z, .slice X hs.length Y], .string n] v fun e N => e = .returned (.int .i64 (quI s n)) ∧ Below v.heap.size v N := fun v J n => by
  rw [← bh.out]; exact bgd v (StT.mk nx (.slice qa qs.length qc) (.slice ba zk.length Z) (.slice X hs.length Y) qs zk hs) n P (aj.out.pure J) ay.out.sm
 have dk : ∀ v, Below u.heap.size u v → ∀ n i, Calls prog 57 #[.agg #[.int .u64 nx, .slice qa qs.length qc, .slice ba zk.length Z, .slice X hs.length Y], .agg #[.string n, .int .u64 i]] v fun e N => e = .returned (.int .i64 (msI s ⟨n, i⟩)) ∧ Below v.heap.size v N := fun v J n i => by
  rw [← bh.out]; exact bgs v (StT.mk nx (.slice qa qs.length qc) (.slice ba zk.length Z) (.slice X hs.length Y) qs zk hs) n i P (aj.out.pure J) ay.out.sm
 have dn : ∀ v, Below u.heap.size u v → ∀ n i, Calls prog 58 #[.agg #[.int .u64 nx, .slice qa qs.length qc, .slice ba zk.length Z, .slice X hs.length Y], .agg #[.string n, .int .u64 i]] v fun e N => e = .returned (.int .i64 (aa8 (ace s.zk) ⟨n, i⟩ : Nat)) ∧ Below v.heap.size v N := fun v J n i => by
  rw [← bh.out]; exact bgt v (StT.mk nx (.slice qa qs.length qc) (.slice ba zk.length Z) (.slice X hs.length Y) qs zk hs) n i P (aj.out.pure J) ay.out
 have dm : ∀ v, Below u.heap.size u v → ∀ F D E, Calls prog 60 #[.agg #[.int .u64 nx, .slice qa qs.length qc, .slice ba zk.length Z, .slice X hs.length Y], .agg #[.int .u32 F, .string D, .string E]] v fun e N => e = .returned (.int .i64 (brI s (F, D, E))) ∧ Below v.heap.size v N := fun v J F D E => by
  rw [← bh.out]; exact bgr v (StT.mk nx (.slice qa qs.length qc) (.slice ba zk.length Z) (.slice X hs.length Y) qs zk hs) F D E P (aj.out.pure J) ay.out.sm
 have df := qq dl; have di := qq dw; have dg := qq dk; have da := qq dn; have cl := qq dm
 clear dl dw dk dn dm
 obtain ⟨s0, s1, s2, s3⟩ := A1.a4
 cases v1
 rotate_left 1
 ·clear cp
  exact bfn
 cases v2
 rotate_left 1
 ·skip
  exact bfn
 cases v3
 rotate_left 0
 ·skip
  have hfin := qq (show R = 140 by rw [hRl.out]; simp); go_wp2_with (go_at_call 54; (with_reducible refine (df.out _ (qz _ _)).mono ?_); rintro e u2 ⟨rfl, ab⟩); go_ret; exact ⟨by first | rfl | (rw [hfin.out]; rfl), hB1.trans (ab.mono hB1.size)⟩
 go_upto_region 3 with (go_at_call 54; (with_reducible refine (df.out _ (qz _ _)).mono ?_); rintro e u2 ⟨rfl, ab⟩)
 clear s0 s1 s2 s3 dr cp
 have A2 := A1.pure ab
 have hRl := qq (show R = if (v4 && v5) = true then 0 else 140 from hRl.out)
 have hAB := hB1.trans (ab.mono hB1.size)
 have c2 := A2.at 2 rfl
 go_wp2
 clear c2
 go_loopw [3, 4, 5, 6] (fun s3 s4 s5 s6 wr => ∃ k : Nat, k ≤ zk.length ∧ s3 = .int .i64 k ∧ Hid (∀ j, (h : j < s.zk.length) → j < k → brP s.qs (ace s.zk) s.zk[j] = true ∧ (0 < j → aav (s.zk[j - 1]'(by omega)).x s.zk[j].x < 0)) ∧ Below u2.heap.size u2 wr) (fun s3 s4 s5 s6 _ => zk.length - (intOf s3).toNat)
 case atStart => exact ⟨0, Nat.zero_le _, rfl, qq (fun j h h' => jp h' (by omega)), qz _ _⟩
 case round =>
  obtain ⟨k, hk, rfl, an, hB⟩ := hrel; have A3 := A2.pure hB; have cc := qq (ab.trans (hB.mono ab.size)); have b2 := A3.at 2 rfl; by_cases aa : k < zk.length
  rotate_left 1
  ·obtain rfl : k = zk.length := by omega
   have bw := qq (show v4 = true by rw [← bj.out]; exact beq.2 (fun j hj => an.out j hj (by rw [ce.out, jf] at hj; exact hj))); have hRl := qq (show R = if v5 = true then 0 else 140 by rw [hRl.out, bw.out]; rfl); have cl := qq (show ∀ v, Below wr.heap.size wr v → ∀ F D E, Calls prog 60 #[.agg #[.int .u64 nx, .slice qa qs.length qc, .slice ba zk.length Z, .slice X hs.length Y], .agg #[.int .u32 F, .string D, .string E]] v fun e N => e = .returned (.int .i64 (brI s (F, D, E))) ∧ Below v.heap.size v N from fun v J => cl.out v (cc.out.trans (J.mono cc.out.size))); have aj := qq (aj.out.pure cc.out); have ca := hAB.trans (hB.mono hAB.size); obtain ⟨wo, rfl⟩ := zj wr; clear an di dg da hB; go_upto_region 19 with fail; have b3 := A3.at 3 rfl; go_wp2; clear b2 b3; go_loopw [7, 8] (fun s7 s8 wr => ∃ k : Nat, k ≤ hs.length ∧ s7 = .int .i64 k ∧ Hid (∀ j, (h : j < s.hs.length) → j < k → heP s.zk s.hs[j] = true ∧ (0 < j → aav (s.hs[j - 1]'(by omega)).x s.hs[j].x < 0)) ∧ Below wo.heap.size wo wr) (fun s7 s8 _ => hs.length - (intOf s7).toNat)
   case atStart => exact ⟨0, Nat.zero_le _, rfl, qq (fun j h h' => jp h' (by omega)), qz _ _⟩
   case round =>
    obtain ⟨k, hk, rfl, an, hB⟩ := hrel; have A4 := A3.pure hB; have b3 := A4.at 3 rfl; by_cases aa : k < hs.length
    rotate_left 1
    ·obtain rfl : k = hs.length := by omega
     have bt := qq (show v5 = true by rw [← cb.out]; exact beq.2 (fun j hj => an.out j hj (by rw [cd.out] at hj; exact hj))); have hfin := qq (show R = 0 by rw [hRl.out, bt.out]; rfl); go_wp2; go_ret; exact ⟨by first | rfl | (rw [hfin.out]; rfl), ca.trans (hB.mono ca.size)⟩
    have d9 : (k : Int) < (hs.length : Int) := by omega
    have ef : (0 : Int) ≤ (k : Int) := by omega
    have af : Slc adp 4 wr (.slice X hs.length Y) hs := (aj.out.pure hB).h; obtain ⟨g, off, rfl⟩ := af.addrB aa; obtain ⟨F, D, E, aq, hx, c0, c1, c2, -⟩ := agb af aa; have ao : k < s.hs.length := by rw [cd.out]; exact aa
    have ah := qq (show s.hs[k] = ⟨(F, D, E), aq⟩ by
     have h : s.hs[k]? = some ⟨(F, D, E), aq⟩ := by rw [cd.out, List.getElem?_eq_getElem aa, hx]
     exact (List.getElem_eq_iff _).2 h)
    have a1 := qq (show s.hs[k].x = (F, D, E) by rw [ah.out])
    have cy := qq (show 0 < k → ∃ (z : Int) (U O : ByteArray), (s.hs[k - 1]'(by omega)).x = (z, U, O) ∧ U.size ≤ 64 ∧ O.size ≤ 64 ∧ ∀ v, Below wr.heap.size wr v → v.cell? ⟨g, off + (k - 1) * 4, none⟩ = some (.int .u32 z) ∧ v.cell? ⟨g, off + (k - 1) * 4 + 1, none⟩ = some (.string U) ∧ v.cell? ⟨g, off + (k - 1) * 4 + 2, none⟩ = some (.string O) from fun h0 => by
     have ai : k - 1 < hs.length := by omega
     have hp := bhg (jj _ _ ▸ (show (Xn.okB (s.hs[k - 1]'(by omega)).x && !amu s.zk (s.hs[k - 1]'(by omega)).x) = true from (an.out (k - 1) (by omega) (by omega)).1)).1; have e : s.hs[k - 1]'(by omega) = hs[k - 1] := (List.getElem_eq_iff _).2 (by rw [cd.out, List.getElem?_eq_getElem ai]); rw [e] at hp ⊢; obtain ⟨z, U, O, pc, hq, -⟩ := agb af ai; rw [hq] at hp ⊢
     exact ⟨z, U, O, rfl, hp.1, hp.2, fun v J => by obtain ⟨z0, z1, z2, -⟩ := aco (af.pure J) ai hq; exact ⟨z0, z1, z2⟩⟩)
    obtain ⟨xo, cu⟩ := qx (Xn.okB (F, D, E)); obtain ⟨cx, cw⟩ : ∃ c : Int, (if xo = true then 0 else 40) = c := ⟨_, rfl⟩
    have ek := qq (show ∀ v, Calls prog 59 #[.agg #[.int .u32 F, .string D, .string E]] v fun e N => e = .returned (.int .i64 cx) ∧ Below v.heap.size v N from fun v => by rw [← cw, ← cu]; exact be7 v F D E); obtain ⟨b1, ad⟩ := qx (cx != 0); have bg := qq (show b1 = !Xn.okB (F, D, E) by rw [← ad, ← cw, bhj, cu]); obtain ⟨b2, b7⟩ := qx (decide (0 ≤ brI s (F, D, E))); have de := qq (show b2 = amu s.zk (F, D, E) from b7.symm.trans bhd); obtain ⟨c5, am⟩ := qx (decide (0 < k)); have ar := qq am; have cj := qq ad; have d7 := qq b7; clear af hx cu cw ad b7 am; go_upto_region 23 with fail; have ae := (qz wr.heap.size wr).alloc (qj _) (.cells #[.int .u32 F, .string D, .string E] 30); have N0 := Blk.new wr [.int .u32 F, .string D, .string E] 30; have A5 := A4.pure ae; obtain ⟨nb, b8⟩ := zj wr.heap.size; obtain ⟨x, b0⟩ := zj (wr.alloc (.cells #[.int .u32 F, .string D, .string E] 30)); rw [← b0] at N0 A5 ae ⊢; rw [← b8] at N0 ⊢; have av := hB.trans (ae.mono hB.size); have al := qq ae; clear b0 b8 ae; go_cut [133] from 109 to 132 (fun ea wx => ∃ ag : Bool, ea = .bool ag ∧ Below x.heap.size x wx ∧ (ag = true → R = 140) ∧ (ag = false → heP s.zk s.hs[k] = true ∧ (∀ h0 : 0 < k, aav (s.hs[k - 1]'(by omega)).x s.hs[k].x < 0)))
    case first =>
     have hb := aan (qz x.heap.size x); refine aal (fun v => Below x.heap.size x v) hb (fun A => ?_); refine tkF 0 A ?_ (fun v G => (N0.pure G).a3); refine aai 1 rfl (fun Kq M => ?_); go_simp
     (go_at_call 59; (with_reducible refine (ek.out _).mono ?_); rintro e x2 ⟨rfl, ab⟩)
     have hb := hb.trans (ab.mono hb.size); refine M.out _ _ hb (fun A => ?_); clear M Kq; (try simp only [Act.put, lsT, lsZ, lsS]); have ad := cj.out; refine tkH 2 A ?_; refine tkH 3 A ?_; clear ad; cases b1
     rotate_left 1
     ·skip
      refine agu 4 _ rfl rfl A ?_; (try simp only [Act.put, lsT, lsZ, lsS]); refine agu 5 _ rfl rfl A ?_; (try simp only [Act.put, lsT, lsZ, lsS]); refine agu 6 _ rfl rfl A ?_; (try simp only [Act.put, lsT, lsZ, lsS]); refine agu 7 _ rfl rfl A ?_; (try simp only [Act.put, lsT, lsZ, lsS]); refine tkH 8 A ?_; refine tkH 9 A ?_; refine agu 10 _ rfl rfl A ?_; (try simp only [Act.put, lsT, lsZ, lsS]); refine agu 11 _ rfl rfl A ?_; (try simp only [Act.put, lsT, lsZ, lsS]); refine agu 12 _ rfl rfl A ?_; (try simp only [Act.put, lsT, lsZ, lsS]); refine agu 13 _ rfl rfl A ?_; (try simp only [Act.put, lsT, lsZ, lsS]); refine agu 14 _ rfl rfl A ?_; (try simp only [Act.put, lsT, lsZ, lsS]); refine agu 15 _ rfl rfl A ?_; (try simp only [Act.put, lsT, lsZ, lsS]); refine agu 16 _ rfl rfl A ?_; (try simp only [Act.put, lsT, lsZ, lsS]); refine agu 17 _ rfl rfl A ?_; (try simp only [Act.put, lsT, lsZ, lsS]); refine agu 18 _ rfl rfl A ?_; (try simp only [Act.put, lsT, lsZ, lsS]); refine agu 19 _ rfl rfl A ?_; (try simp only [Act.put, lsT, lsZ, lsS]); refine agu 20 _ rfl rfl A ?_; (try simp only [Act.put, lsT, lsZ, lsS]); refine agu 21 _ rfl rfl A ?_; (try simp only [Act.put, lsT, lsZ, lsS]); refine agu 22 _ rfl rfl A ?_; (try simp only [Act.put, lsT, lsZ, lsS]); refine agu 23 _ rfl rfl A ?_; (try simp only [Act.put, lsT, lsZ, lsS]); refine tkH 24 A ?_; refine ah9 ?_; have hfin := qq (show R = 140 by rw [hRl.out, show v5 = false by rw [← cb.out]; exact bfg ao (.inl (by rw [ah.out]; show (Xn.okB (F, D, E) && _) = false; rw [show Xn.okB (F, D, E) = false by have := bg.out; revert this; cases Xn.okB (F, D, E) <;> simp]; rfl))]; rfl); exact at8
     have dj := qq (show Xn.okB (F, D, E) = true by have := bg.out; revert this; cases Xn.okB (F, D, E) <;> simp); refine tkF 4 A ?_ (fun v G => (A5.pure G).a4); refine tkF 5 A ?_ (fun v G => (N0.pure G).a3); refine aai 6 rfl (fun Kq M => ?_); go_simp
     (go_at_call 60; (with_reducible refine (cl.out _ (av.trans (hb.mono av.size)) _ _ _).mono ?_); rintro e x3 ⟨rfl, au⟩)
     have hb := hb.trans (au.mono hb.size); refine M.out _ _ hb (fun A => ?_); clear M Kq; (try simp only [Act.put, lsT, lsZ, lsS]); have b7 := d7.out; refine tkH 7 A ?_; refine tkH 8 A ?_; refine tkH 9 A ?_; clear b7; cases b2
     rotate_left 1
     ·skip
      refine agu 10 _ rfl rfl A ?_; (try simp only [Act.put, lsT, lsZ, lsS]); refine agu 11 _ rfl rfl A ?_; (try simp only [Act.put, lsT, lsZ, lsS]); refine agu 12 _ rfl rfl A ?_; (try simp only [Act.put, lsT, lsZ, lsS]); refine agu 13 _ rfl rfl A ?_; (try simp only [Act.put, lsT, lsZ, lsS]); refine agu 14 _ rfl rfl A ?_; (try simp only [Act.put, lsT, lsZ, lsS]); refine agu 15 _ rfl rfl A ?_; (try simp only [Act.put, lsT, lsZ, lsS]); refine agu 16 _ rfl rfl A ?_; (try simp only [Act.put, lsT, lsZ, lsS]); refine agu 17 _ rfl rfl A ?_; (try simp only [Act.put, lsT, lsZ, lsS]); refine agu 18 _ rfl rfl A ?_; (try simp only [Act.put, lsT, lsZ, lsS]); refine agu 19 _ rfl rfl A ?_; (try simp only [Act.put, lsT, lsZ, lsS]); refine agu 20 _ rfl rfl A ?_; (try simp only [Act.put, lsT, lsZ, lsS]); refine agu 21 _ rfl rfl A ?_; (try simp only [Act.put, lsT, lsZ, lsS]); refine agu 22 _ rfl rfl A ?_; (try simp only [Act.put, lsT, lsZ, lsS]); refine agu 23 _ rfl rfl A ?_; (try simp only [Act.put, lsT, lsZ, lsS]); refine tkH 24 A ?_; refine ah9 ?_; have hfin := qq (show R = 140 by rw [hRl.out, show v5 = false by rw [← cb.out]; exact bfg ao (.inl (by rw [ah.out]; show (_ && !amu s.zk (F, D, E)) = false; rw [← de.out]; simp))]; rfl); exact at8
     have dt := qq (show heP s.zk s.hs[k] = true by rw [ah.out]; show (Xn.okB (F, D, E) && !amu s.zk (F, D, E)) = true; rw [← de.out, dj.out]; rfl); have am := ar.out; refine tkH 10 A ?_; refine tkH 11 A ?_; refine tkH 12 A ?_; clear am; cases c5
     ·skip
      refine agu 13 _ rfl rfl A ?_; (try simp only [Act.put, lsT, lsZ, lsS]); refine agu 14 _ rfl rfl A ?_; (try simp only [Act.put, lsT, lsZ, lsS]); refine agu 15 _ rfl rfl A ?_; (try simp only [Act.put, lsT, lsZ, lsS]); refine agu 16 _ rfl rfl A ?_; (try simp only [Act.put, lsT, lsZ, lsS]); refine agu 17 _ rfl rfl A ?_; (try simp only [Act.put, lsT, lsZ, lsS]); refine agu 18 _ rfl rfl A ?_; (try simp only [Act.put, lsT, lsZ, lsS]); refine agu 19 _ rfl rfl A ?_; (try simp only [Act.put, lsT, lsZ, lsS]); refine agu 20 _ rfl rfl A ?_; (try simp only [Act.put, lsT, lsZ, lsS]); refine agu 21 _ rfl rfl A ?_; (try simp only [Act.put, lsT, lsZ, lsS]); refine agu 22 _ rfl rfl A ?_; (try simp only [Act.put, lsT, lsZ, lsS]); refine tkH 23 A ?_; refine tkH 24 A ?_; refine ah9 ?_; have ak : ∀ h0 : 0 < k, aav (s.hs[k - 1]'(by omega)).x s.hs[k].x < 0 := fun h => jp h (jq ar.out)
      go_wp2; go_meet; exact ⟨false, rfl, hb, (fun h => by cases h), fun _ => ⟨dt.out, ak⟩⟩
     have h0 : 0 < k := qt ar.out; obtain ⟨z, U, O, b9, el, ej, b6⟩ := cy.out h0; have ci := qq (show ∀ v, Below x.heap.size x v → _ from fun v J => b6 v (al.out.trans (J.mono al.out.size))); have ax : D.size ≤ 64 ∧ E.size ≤ 64 := bhg dj.out; have aq := qq (fun (v : World) => bft v z F U O D E (by omega) (by omega) (by have := ax.1; omega) (by have := ax.2; omega)); obtain ⟨sg, aw⟩ := qx (bgp (z, U, O) (F, D, E)); rw [aw] at aq; obtain ⟨c6, b5⟩ := qx (decide (0 ≤ sg)); have bn := qq (show decide (0 ≤ aav (z, U, O) (F, D, E)) = c6 by rw [← b5, ← aw]; exact decide_eq_decide.2 bgg.symm); have bm := qq b9; have ee : IntKind.i64.wrap ((k : Int) - 1) = (k : Int) - 1 := by rw [IntKind.wrap_i64]; omega
     have eb : ((k : Int) - 1).toNat = k - 1 := by omega
     have ai : (0 : Int) ≤ (k : Int) - 1 := by omega
     have eo : (1 : Int) ≤ (k : Int) := by omega
     have eh : (k : Int) - 1 < (hs.length : Int) := by omega
     clear b9 b6 aw ax; refine tkH 13 A ?_; refine tkF 14 A ?_ (fun v G => (A5.pure G).at 3 rfl); refine tkH 15 A ?_; refine tkH 16 A ?_; refine tkH 17 A ?_; refine tkH 18 A ?_; refine tkF 19 A ?_ (fun v G => ci.out _ G); refine tkF 20 A ?_ (fun v G => (N0.pure G).a3); refine aai 21 rfl (fun Kq M => ?_); go_simp
     (go_at_call 55; (with_reducible refine (aq.out _).mono ?_); rintro e x4 ⟨rfl, bq⟩)
     have hb := hb.trans (bq.mono hb.size); refine M.out _ _ hb (fun A => ?_); clear M Kq; (try simp only [Act.put, lsT, lsZ, lsS]); refine tkH 22 A ?_; refine tkH 23 A ?_; refine tkH 24 A ?_; refine ah9 ?_; clear b5; cases c6
     rotate_left 1
     ·skip
      have hfin := qq (show R = 140 by rw [hRl.out, show v5 = false by rw [← cb.out]; exact bfg ao (.inr ⟨h0, by rw [bm.out, a1.out]; exact qt bn.out⟩)]; rfl); exact at8
     have ak : ∀ h0 : 0 < k, aav (s.hs[k - 1]'(by omega)).x s.hs[k].x < 0 := fun h => by have := jq bn.out; rw [bm.out, a1.out]; show aav (z, U, O) (F, D, E) < 0; omega
     go_wp2; go_meet; exact ⟨false, rfl, hb, (fun h => by cases h), fun _ => ⟨dt.out, ak⟩⟩
    case rest =>
     obtain ⟨ag, rfl, bd, bi, bf⟩ := hcut; have hBd := av.trans (bd.mono av.size); cases ag
     rotate_left 1
     ·have hfin := qq (bi rfl)
      go_wp2; go_ret; exact ⟨by first | rfl | (rw [hfin.out]; rfl), ca.trans (hBd.mono ca.size)⟩
     have hg := bf rfl
     have hall2 := qq (show ∀ j, (h : j < s.hs.length) → j < k + 1 → heP s.zk s.hs[j] = true ∧ (0 < j → aav (s.hs[j - 1]'(by omega)).x s.hs[j].x < 0) from fun j h hj => by
      rcases Nat.lt_or_ge j k with q | q
      ·exact an.out j h q
      ·obtain rfl : j = k := by omega
       exact hg)
     clear bi bf hg; exact bfk
  have d9 : (k : Int) < (zk.length : Int) := by omega
  have ef : (0 : Int) ≤ (k : Int) := by omega
  have bu := aj.out.pure cc.out; have af : Slc aa7 5 wr (.slice ba zk.length Z) zk := bu.b; obtain ⟨g, off, rfl⟩ := af.addrB aa; obtain ⟨F, D, E, pa, pc, ta, tc, K, I, hx, -, -, c0, c1, c2, c3, c4⟩ := adq af aa (bu.e _ (qy aa)); have co := bu.e _ (qy aa); have bk := ay.out.bs _ (qy aa); rw [hx] at co bk; have es : (K.length : Int) ≤ 20 := by have : K.length ≤ 20 := bk.p; omega
  have er : (I.length : Int) ≤ 20 := by have : I.length ≤ 20 := bk.t; omega
  have ao : k < s.zk.length := by rw [ce.out, jf]; exact aa
  obtain ⟨bb, a0⟩ : ∃ b : Br, (BrT.mk (F, D, E) (.slice pa K.length pc) (.slice ta I.length tc) K I).b = b := ⟨_, rfl⟩
  have ah := qq (show s.zk[k] = bb by
   have h : s.zk[k]? = some bb := by rw [ce.out, List.getElem?_map, List.getElem?_eq_getElem aa, hx, ← a0]; rfl
   exact (List.getElem_eq_iff _).2 h)
  have a1 := qq (show s.zk[k].x = (F, D, E) by rw [ah.out, ← a0]; rfl); have dq := qq (show bb.zu = K.map PtT.p by rw [← a0]; rfl); have ds := qq (show bb.zy = I by rw [← a0]; rfl)
  have cy := qq (show 0 < k → ∃ (z : Int) (U O : ByteArray), (s.zk[k - 1]'(by omega)).x = (z, U, O) ∧ U.size ≤ 64 ∧ O.size ≤ 64 ∧ ∀ v, Below wr.heap.size wr v → v.cell? ⟨g, off + (k - 1) * 5, none⟩ = some (.int .u32 z) ∧ v.cell? ⟨g, off + (k - 1) * 5 + 1, none⟩ = some (.string U) ∧ v.cell? ⟨g, off + (k - 1) * 5 + 2, none⟩ = some (.string O) from fun h0 => by
   have ai : k - 1 < zk.length := by omega
   have hp := (an.out (k - 1) (by omega) (by omega)).1; unfold brP at hp; rw [jj, jj] at hp; have hp := bhf hp.1.1; have e : s.zk[k - 1]'(by omega) = zk[k - 1].b := (List.getElem_eq_iff _).2 (by rw [ce.out, List.getElem?_map, List.getElem?_eq_getElem ai]; rfl); rw [e] at hp ⊢; obtain ⟨z, U, O, p1, p2, p3, p4, p5, p6, hq, -⟩ := adq af ai (bu.e _ (qy ai)); rw [hq] at hp ⊢
   exact ⟨z, U, O, rfl, hp.1, hp.2, fun v J => by obtain ⟨z0, z1, z2, -⟩ := ach (af.pure J) ai hq; exact ⟨z0, z1, z2⟩⟩)
  have db := qq co; obtain ⟨ck, cm⟩ : ∃ c : Int, (BrT.mk (F, D, E) (.slice pa K.length pc) (.slice ta I.length tc) K I).en.e.chk = c := ⟨_, rfl⟩
  have ei := qq (show ∀ v, Below wr.heap.size wr v → Calls prog 39 #[.agg #[.int .u8 4, .string ⟨#[]⟩, .int .u64 0, .int .u32 F, .string D, .string E, .slice pa K.length pc, .slice ta I.length tc]] v fun e N => e = .returned (.int .i64 ck) ∧ Below v.heap.size v N from fun v J => by
   rw [← cm]; exact bfz (BrT.mk (F, D, E) (.slice pa K.length pc) (.slice ta I.length tc) K I).en P v (db.out.pure J) (bhh bk.e))
  have em := qq (fun (v : World) => avd v F D E pa K.length pc ta I.length tc); obtain ⟨b1, ad⟩ := qx (ck != 0); have bg := qq (show b1 = !bb.en.okB by rw [← ad, ← cm, BrT.en_e, bhi, a0]); obtain ⟨c5, am⟩ := qx (decide (0 < k)); have ar := qq am; have cj := qq ad; clear bu af hx co bk cm ad am a0; go_upto_region 7 with fail; have ae := (qz wr.heap.size wr).alloc (qj _) (.cells #[.int .u32 F, .string D, .string E, .slice pa K.length pc, .slice ta I.length tc] 62); have N0 := Blk.new wr [.int .u32 F, .string D, .string E, .slice pa K.length pc, .slice ta I.length tc] 62; have A5 := A3.pure ae; obtain ⟨nb, b8⟩ := zj wr.heap.size; obtain ⟨x, b0⟩ := zj (wr.alloc (.cells #[.int .u32 F, .string D, .string E, .slice pa K.length pc, .slice ta I.length tc] 62)); rw [← b0] at N0 A5 ae ⊢; rw [← b8] at N0 ⊢; have av := hB.trans (ae.mono hB.size); have al := qq ae; clear b0 b8 ae; go_cut [54] from 34 to 53 (fun ed wx => ∃ ag : Bool, ed = .bool ag ∧ Below x.heap.size x wx ∧ (ag = true → R = 140) ∧ (ag = false → bb.en.okB = true ∧ (∀ h0 : 0 < k, aav (s.zk[k - 1]'(by omega)).x s.zk[k].x < 0)))
  case first =>
   have hb := aan (qz x.heap.size x); refine aal (fun v => Below x.heap.size x v) hb (fun A => ?_); refine tkF 0 A ?_ (fun v G => (N0.pure G).a5); refine aai 1 rfl (fun Kq M => ?_); go_simp
   (go_at_call 24; (with_reducible refine (em.out _).mono ?_); rintro e x2 ⟨rfl, ab⟩)
   have hb := hb.trans (ab.mono hb.size); refine M.out _ _ hb (fun A => ?_); clear M Kq; (try simp only [Act.put, lsT, lsZ, lsS]); refine aai 2 rfl (fun Kq M => ?_); go_simp
   (go_at_call 39; (with_reducible refine (ei.out _ (al.out.trans (hb.mono al.out.size))).mono ?_); rintro e x3 ⟨rfl, au⟩)
   have hb := hb.trans (au.mono hb.size); refine M.out _ _ hb (fun A => ?_); clear M Kq; (try simp only [Act.put, lsT, lsZ, lsS]); have ad := cj.out; refine tkH 3 A ?_; refine tkH 4 A ?_; clear ad; cases b1
   rotate_left 1
   ·skip
    refine agu 5 _ rfl rfl A ?_; (try simp only [Act.put, lsT, lsZ, lsS]); refine agu 6 _ rfl rfl A ?_; (try simp only [Act.put, lsT, lsZ, lsS]); refine agu 7 _ rfl rfl A ?_; (try simp only [Act.put, lsT, lsZ, lsS]); refine agu 8 _ rfl rfl A ?_; (try simp only [Act.put, lsT, lsZ, lsS]); refine agu 9 _ rfl rfl A ?_; (try simp only [Act.put, lsT, lsZ, lsS]); refine agu 10 _ rfl rfl A ?_; (try simp only [Act.put, lsT, lsZ, lsS]); refine agu 11 _ rfl rfl A ?_; (try simp only [Act.put, lsT, lsZ, lsS]); refine agu 12 _ rfl rfl A ?_; (try simp only [Act.put, lsT, lsZ, lsS]); refine agu 13 _ rfl rfl A ?_; (try simp only [Act.put, lsT, lsZ, lsS]); refine agu 14 _ rfl rfl A ?_; (try simp only [Act.put, lsT, lsZ, lsS]); refine agu 15 _ rfl rfl A ?_; (try simp only [Act.put, lsT, lsZ, lsS]); refine agu 16 _ rfl rfl A ?_; (try simp only [Act.put, lsT, lsZ, lsS]); refine agu 17 _ rfl rfl A ?_; (try simp only [Act.put, lsT, lsZ, lsS]); refine agu 18 _ rfl rfl A ?_; (try simp only [Act.put, lsT, lsZ, lsS]); refine agu 19 _ rfl rfl A ?_; (try simp only [Act.put, lsT, lsZ, lsS]); refine tkH 20 A ?_; refine ah9 ?_; have hfin := qq (show R = 140 by rw [hRl.out, show v4 = false by rw [← bj.out]; exact bfg ao (.inl (by rw [ah.out]; unfold brP; rw [show bb.en.okB = false by have := bg.out; revert this; cases bb.en.okB <;> simp]; rfl))]; rfl); exact at8
   have bo := qq (show bb.en.okB = true by have := bg.out; revert this; cases bb.en.okB <;> simp); have am := ar.out; refine tkH 5 A ?_; refine tkH 6 A ?_; refine tkH 7 A ?_; clear am; cases c5
   ·skip
    refine agu 8 _ rfl rfl A ?_; (try simp only [Act.put, lsT, lsZ, lsS]); refine agu 9 _ rfl rfl A ?_; (try simp only [Act.put, lsT, lsZ, lsS]); refine agu 10 _ rfl rfl A ?_; (try simp only [Act.put, lsT, lsZ, lsS]); refine agu 11 _ rfl rfl A ?_; (try simp only [Act.put, lsT, lsZ, lsS]); refine agu 12 _ rfl rfl A ?_; (try simp only [Act.put, lsT, lsZ, lsS]); refine agu 13 _ rfl rfl A ?_; (try simp only [Act.put, lsT, lsZ, lsS]); refine agu 14 _ rfl rfl A ?_; (try simp only [Act.put, lsT, lsZ, lsS]); refine agu 15 _ rfl rfl A ?_; (try simp only [Act.put, lsT, lsZ, lsS]); refine agu 16 _ rfl rfl A ?_; (try simp only [Act.put, lsT, lsZ, lsS]); refine agu 17 _ rfl rfl A ?_; (try simp only [Act.put, lsT, lsZ, lsS]); refine agu 18 _ rfl rfl A ?_; (try simp only [Act.put, lsT, lsZ, lsS]); refine tkH 19 A ?_; refine tkH 20 A ?_; refine ah9 ?_; have ak : ∀ h0 : 0 < k, aav (s.zk[k - 1]'(by omega)).x s.zk[k].x < 0 := fun h => jp h (jq ar.out)
    go_wp2; go_meet; exact ⟨false, rfl, hb, (fun h => by cases h), fun _ => ⟨bo.out, ak⟩⟩
   have h0 : 0 < k := qt ar.out; obtain ⟨z, U, O, b9, el, ej, b6⟩ := cy.out h0; have ci := qq (show ∀ v, Below x.heap.size x v → _ from fun v J => b6 v (al.out.trans (J.mono al.out.size))); have ax : D.size ≤ 64 ∧ E.size ≤ 64 := (by have h := bhf bo.out; rw [← ah.out, a1.out] at h; exact h); have aq := qq (fun (v : World) => bft v z F U O D E (by omega) (by omega) (by have := ax.1; omega) (by have := ax.2; omega)); obtain ⟨sg, aw⟩ := qx (bgp (z, U, O) (F, D, E)); rw [aw] at aq; obtain ⟨c6, b5⟩ := qx (decide (0 ≤ sg)); have bn := qq (show decide (0 ≤ aav (z, U, O) (F, D, E)) = c6 by rw [← b5, ← aw]; exact decide_eq_decide.2 bgg.symm); have bm := qq b9; have ee : IntKind.i64.wrap ((k : Int) - 1) = (k : Int) - 1 := by rw [IntKind.wrap_i64]; omega
   have eb : ((k : Int) - 1).toNat = k - 1 := by omega
   have ai : (0 : Int) ≤ (k : Int) - 1 := by omega
   have eo : (1 : Int) ≤ (k : Int) := by omega
   have eh : (k : Int) - 1 < (zk.length : Int) := by omega
   clear b9 b6 aw ax; refine tkH 8 A ?_; refine tkF 9 A ?_ (fun v G => (A5.pure G).at 2 rfl); refine tkH 10 A ?_; refine tkH 11 A ?_; refine tkH 12 A ?_; refine tkH 13 A ?_; refine tkF 14 A ?_ (fun v G => ci.out _ G); refine tkH 15 A ?_; refine tkF 16 A ?_ (fun v G => (N0.pure G).a3); refine aai 17 rfl (fun Kq M => ?_); go_simp
   (go_at_call 55; (with_reducible refine (aq.out _).mono ?_); rintro e x4 ⟨rfl, bq⟩)
   have hb := hb.trans (bq.mono hb.size); refine M.out _ _ hb (fun A => ?_); clear M Kq; (try simp only [Act.put, lsT, lsZ, lsS]); refine tkH 18 A ?_; refine tkH 19 A ?_; refine tkH 20 A ?_; refine ah9 ?_; clear b5; cases c6
   rotate_left 1
   ·skip
    have hfin := qq (show R = 140 by rw [hRl.out, show v4 = false by rw [← bj.out]; exact bfg ao (.inr ⟨h0, by rw [bm.out, a1.out]; exact qt bn.out⟩)]; rfl); exact at8
   have ak : ∀ h0 : 0 < k, aav (s.zk[k - 1]'(by omega)).x s.zk[k].x < 0 := fun h => by have := jq bn.out; rw [bm.out, a1.out]; show aav (z, U, O) (F, D, E) < 0; omega
   go_wp2; go_meet; exact ⟨false, rfl, hb, (fun h => by cases h), fun _ => ⟨bo.out, ak⟩⟩
  case rest =>
   obtain ⟨ag, rfl, bd, bi, bf⟩ := hcut; have hBd := av.trans (bd.mono av.size); have du := ab.trans (hBd.mono ab.size); cases ag
   rotate_left 1
   ·have hfin := qq (bi rfl)
    go_wp2; go_ret; exact ⟨by first | rfl | (rw [hfin.out]; rfl), hAB.trans (hBd.mono hAB.size)⟩
   have hg := bf rfl; have bo := qq hg.1; have ak := qq hg.2; have N6 := N0.pure bd; have A6 := A5.pure bd; have c7 := qq (db.out.pure (al.out.trans (bd.mono al.out.size))); have dd := qq du; have n3 := N6.at 3 rfl; clear bi bf hg b2 c0 c1 c2 c3 c4 du; go_wp2; clear n3; go_loopw [5] (fun s5 wr => ∃ j : Nat, j ≤ K.length ∧ s5 = .int .i64 j ∧ Hid ((K.take j).all (fun p => ad0 s.qs p.q) = true) ∧ Below wc.heap.size wc wr) (fun s5 _ => K.length - (intOf s5).toNat)
   case atStart => exact ⟨0, Nat.zero_le _, rfl, qq rfl, qz _ _⟩
   case round =>
    obtain ⟨j, hj, rfl, ch, W⟩ := hrel; have N7 := N6.pure W; have A7 := A6.pure W; have n3 := N7.at 3 rfl; have cg := qq (dd.out.trans (W.mono dd.out.size)); by_cases ac : j < K.length
    ·have d8 : (j : Int) < (K.length : Int) := by omega
     have eg : (0 : Int) ≤ (j : Int) := by omega
     have cv : Slc aat 12 wr (.slice pa K.length pc) K := (c7.out.pure W).p; obtain ⟨gp, op, rfl⟩ := cv.addrB ac; obtain ⟨pq, cr⟩ := qx (K[j].q); have d1 := qq (fun (v : World) (J : Below wr.heap.size wr v) => show v.cell? ⟨gp, op + j * 12, none⟩ = some (.string pq) from (cv.pure J).get j ac 0 (.string pq) (by rw [← cr]; rfl)); obtain ⟨qi, cz⟩ := qx (quI s pq); have d5 := qq (show ∀ v, Below wr.heap.size wr v → Calls prog 56 #[.agg #[.int .u64 nx, .slice qa qs.length qc, .slice (some ⟨g, off, none⟩) zk.length Z, .slice X hs.length Y], .string pq] v fun e N => e = .returned (.int .i64 qi) ∧ Below v.heap.size v N from fun v J => by rw [← cz]; exact di.out v (cg.out.trans (J.mono cg.out.size)) pq); obtain ⟨b3, bp⟩ := qx (decide (qi < 0)); have bl := qq (show b3 = !ad0 s.qs K[j].q by rw [← bp, ← cz, bhc, cr]); clear cv cr cz; go_upto_region 12 with fail; clear n3; have hb := aan (qz wr.heap.size wr); refine aal (fun v => Below wr.heap.size wr v) hb (fun A => ?_); refine tkF 0 A ?_ (fun v G => (A7.pure G).a4); refine tkH 1 A ?_; refine tkF 2 A ?_ (fun v G => (N7.pure G).at 3 rfl); refine tkH 3 A ?_; refine tkH 4 A ?_; refine tkH 5 A ?_; refine tkH 6 A ?_ (hy := fun v G => by (try dsimp only at G); have q := d1.out _ G; clear G; go_simp; (try with_reducible rfl)); refine aai 7 rfl (fun Kq M => ?_); go_simp
     (go_at_call 56; (with_reducible refine (d5.out _ hb).mono ?_); rintro e x3 ⟨rfl, au⟩)
     have hb := hb.trans (au.mono hb.size); refine M.out _ _ hb (fun A => ?_); clear M Kq; (try simp only [Act.put, lsT, lsZ, lsS]); refine tkH 8 A ?_; refine ah9 ?_; clear bp; have hCd := W.trans (hb.mono W.size); cases b3
     ·have dx := qq (bf6 ac ch.out (by have := bl.out; revert this; cases ad0 s.qs K[j].q <;> simp))
      go_wp2; go_roundw
      case rel => exact ⟨j + 1, by omega, by go_num, dx, hCd⟩
      case measure => simp [intOf]; omega
     ·have hfin := qq (show R = 140 by
       rw [hRl.out, show v4 = false by
        rw [← bj.out]; refine bfg ao (.inl ?_); rw [ah.out]; unfold brP
        rw [show bb.zu.all (fun p => ad0 s.qs p.q) = false by
         rw [dq.out, List.all_map]
         exact bgh (p := (fun p : Pt => ad0 s.qs p.q) ∘ PtT.p) ac (by have := bl.out; revert this; show _ → ad0 s.qs K[j].q = false; cases ad0 s.qs K[j].q <;> simp)]
        simp]
       rfl)
      go_wp2; go_ret; exact ⟨by first | rfl | (rw [hfin.out]; rfl), hAB.trans ((hBd.trans (hCd.mono hBd.size)).mono hAB.size)⟩
    ·obtain rfl : j = K.length := by omega
     have d6 := qq (show bb.zu.all (fun p => ad0 s.qs p.q) = true by
      rw [dq.out, List.all_map]; have := ch.out; rw [js] at this
      exact this)
     have hBe := hBd.trans (W.mono hBd.size); have dz := qq (c7.out.pure W); have n4 := N7.at 4 rfl; obtain ⟨we, rfl⟩ := zj wr; clear ch W; go_wp2; clear n3 n4; go_loopw [6] (fun s6 wr => ∃ j : Nat, j ≤ I.length ∧ s6 = .int .i64 j ∧ Hid ((I.take j).all (fun r => hasM s.qs r && decide (aa8 (ace s.zk) r = 1)) = true) ∧ Below we.heap.size we wr) (fun s6 _ => I.length - (intOf s6).toNat)
     case atStart => exact ⟨0, Nat.zero_le _, rfl, qq rfl, qz _ _⟩
     case round =>
      obtain ⟨j, hj, rfl, c9, W⟩ := hrel; have N8 := N7.pure W; have A8 := A7.pure W; have n4 := N8.at 4 rfl; have cf := qq (cg.out.trans (W.mono cg.out.size)); have ec := hBe.trans (W.mono hBe.size); by_cases ac : j < I.length
      rotate_left 1
      ·obtain rfl : j = I.length := by omega
       have d4 := qq (show brP s.qs (ace s.zk) s.zk[k] = true by
        rw [ah.out]; unfold brP; rw [bo.out, d6.out, ds.out]; have := c9.out; rw [js] at this
        exact this)
       have hall2 := qq (show ∀ j, (h : j < s.zk.length) → j < k + 1 → brP s.qs (ace s.zk) s.zk[j] = true ∧ (0 < j → aav (s.zk[j - 1]'(by omega)).x s.zk[j].x < 0) from fun j h hj => by
        rcases Nat.lt_or_ge j k with q | q
        ·exact an.out j h q
        ·obtain rfl : j = k := by omega
         exact ⟨d4.out, ak.out⟩)
       go_wp2; go_roundw
       case rel => exact ⟨k + 1, by omega, by go_num, hall2, ec⟩
       case measure => simp [intOf]; omega
      have d8 : (j : Int) < (I.length : Int) := by omega
      have eg : (0 : Int) ≤ (j : Int) := by omega
      have bx : Slc abc 2 wr (.slice ta I.length tc) I := (dz.out.pure W).s; obtain ⟨gt, ot, rfl⟩ := bx.addrB ac; obtain ⟨rq, ri, hy, -, -⟩ := ado bx ac; have dv := qq (show ∀ v, Below wr.heap.size wr v → v.cell? ⟨gt, ot + j * 2, none⟩ = some (.string rq) ∧ v.cell? ⟨gt, ot + j * 2 + 1, none⟩ = some (.int .u64 ri) from fun v h => ⟨(bx.pure h).get j ac 0 (.string rq) (by rw [hy]; rfl), (bx.pure h).get j ac 1 (.int .u64 ri) (by rw [hy]; rfl)⟩); obtain ⟨mi, cq⟩ := qx (msI s ⟨rq, ri⟩); obtain ⟨ln, cs⟩ := qx (aa8 (ace s.zk) ⟨rq, ri⟩); have d0 := qq (show ∀ v, Below wr.heap.size wr v → Calls prog 57 #[.agg #[.int .u64 nx, .slice qa qs.length qc, .slice (some ⟨g, off, none⟩) zk.length Z, .slice X hs.length Y], .agg #[.string rq, .int .u64 ri]] v fun e N => e = .returned (.int .i64 mi) ∧ Below v.heap.size v N from fun v J => by rw [← cq]; exact dg.out v (cf.out.trans (J.mono cf.out.size)) rq ri); have d3 := qq (show ∀ v, Below wr.heap.size wr v → Calls prog 58 #[.agg #[.int .u64 nx, .slice qa qs.length qc, .slice (some ⟨g, off, none⟩) zk.length Z, .slice X hs.length Y], .agg #[.string rq, .int .u64 ri]] v fun e N => e = .returned (.int .i64 (ln : Nat)) ∧ Below v.heap.size v N from fun v J => by rw [← cs]; exact da.out v (cf.out.trans (J.mono cf.out.size)) rq ri); obtain ⟨b3, bp⟩ := qx (decide (mi < 0)); obtain ⟨b4, br⟩ := qx ((ln : Int) != 1); have bl := qq (show b3 = !hasM s.qs I[j] by rw [← bp, ← cq, bhe dh.out, hy]); have dc := qq (show b4 = !decide (aa8 (ace s.zk) I[j] = 1) by rw [hy, cs, ← br, bne, Bool.not_inj_iff, Bool.eq_iff_iff, beq_iff_eq, qm]; omega)
      have c8 := qq (show b3 = true ∨ b4 = true → R = 140 from fun dp => by
       rw [hRl.out, show v4 = false by
        rw [← bj.out]; refine bfg ao (.inl ?_); rw [ah.out]; unfold brP
        rw [show bb.zy.all (fun r => hasM s.qs r && decide (aa8 (ace s.zk) r = 1)) = false by
         rw [ds.out]; refine bgh (L := I) ac ?_; show (hasM s.qs I[j] && decide (aa8 (ace s.zk) I[j] = 1)) = false
         rw [bl.out, dc.out] at dp
         revert dp
         cases hasM s.qs I[j] <;> cases decide (aa8 (ace s.zk) I[j] = 1) <;> simp]
        simp]
       rfl)
      have d2 := qq br; clear bx hy cq cs br; go_upto_region 17 with fail; clear n4; have hb := aan (qz wr.heap.size wr); refine aal (fun v => Below wr.heap.size wr v) hb (fun A => ?_); refine tkF 0 A ?_ (fun v G => (A8.pure G).a4); refine tkH 1 A ?_; refine tkF 2 A ?_ (fun v G => (N8.pure G).at 4 rfl); refine tkH 3 A ?_; refine tkH 4 A ?_; refine tkF 5 A ?_ (fun v G => dv.out _ G); refine aai 6 rfl (fun Kq M => ?_); go_simp
      (go_at_call 57; (with_reducible refine (d0.out _ hb).mono ?_); rintro e x3 ⟨rfl, au⟩)
      have hb := hb.trans (au.mono hb.size); refine M.out _ _ hb (fun A => ?_); clear M Kq; (try simp only [Act.put, lsT, lsZ, lsS]); refine tkH 7 A ?_; refine tkH 8 A ?_; clear bp; cases b3
      rotate_left 1
      ·skip
       refine agu 9 _ rfl rfl A ?_; (try simp only [Act.put, lsT, lsZ, lsS]); refine agu 10 _ rfl rfl A ?_; (try simp only [Act.put, lsT, lsZ, lsS]); refine agu 11 _ rfl rfl A ?_; (try simp only [Act.put, lsT, lsZ, lsS]); refine agu 12 _ rfl rfl A ?_; (try simp only [Act.put, lsT, lsZ, lsS]); refine agu 13 _ rfl rfl A ?_; (try simp only [Act.put, lsT, lsZ, lsS]); refine agu 14 _ rfl rfl A ?_; (try simp only [Act.put, lsT, lsZ, lsS]); refine agu 15 _ rfl rfl A ?_; (try simp only [Act.put, lsT, lsZ, lsS]); refine agu 16 _ rfl rfl A ?_; (try simp only [Act.put, lsT, lsZ, lsS]); refine tkH 17 A ?_; refine ah9 ?_; have hCd := W.trans (hb.mono W.size); have hfin := qq (c8.out (.inl rfl)); exact bfm
      refine tkF 9 A ?_ (fun v G => (A8.pure G).a4); refine tkH 10 A ?_; refine tkF 11 A ?_ (fun v G => (N8.pure G).at 4 rfl); refine tkH 12 A ?_; refine tkH 13 A ?_; refine tkF 14 A ?_ (fun v G => dv.out _ G); refine aai 15 rfl (fun Kq M => ?_); go_simp
      (go_at_call 58; (with_reducible refine (d3.out _ hb).mono ?_); rintro e x4 ⟨rfl, bq⟩)
      have hb := hb.trans (bq.mono hb.size); refine M.out _ _ hb (fun A => ?_); clear M Kq; (try simp only [Act.put, lsT, lsZ, lsS]); have br := d2.out; refine tkH 16 A ?_; refine tkH 17 A ?_; refine ah9 ?_; clear br; cases b4
      rotate_left 1
      ·skip
       have hCd := W.trans (hb.mono W.size); have hfin := qq (c8.out (.inr rfl)); exact bfm
      have hCd := W.trans (hb.mono W.size); have dy := qq (bf6 ac c9.out (by have h3 := bl.out; have h4 := dc.out; revert h3 h4; cases hasM s.qs I[j] <;> cases decide (aa8 (ace s.zk) I[j] = 1) <;> simp)); go_wp2; go_roundw
      case rel => exact ⟨j + 1, by omega, by go_num, dy, hCd⟩
      case measure => simp [intOf]; omega
theorem an9 (al : ayk) (w : World) (t : StT) (q : ByteArray) (id : Int) (P : Nat → Prop) (z : StRd P w t) (hT : Tb w) (hS : StSm t) :
 Calls prog 18 #[t.arg, .agg #[.string q, .int .u64 id]] w fun e w' => e = .returned (.tuple #[xnV (t.s.lock ⟨q, id⟩), .bool (t.s.lock ⟨q, id⟩).isSome]) ∧ Below w.heap.size w w' := by
 obtain ⟨nx, D, qc, G, A, E, F, qs, zk, hs, rfl, -, -, -⟩ := z.open
 rw [StT.arg_mk]
 obtain ⟨Y, W⟩ := zj ((StT.mk nx (.slice D qs.length qc) (.slice G zk.length A) (.slice E hs.length F) qs zk hs).s.lock ⟨q, id⟩)
 rw [← W]
 have ac := qq W
 clear W
 have N := ((qz w.heap.size w).alloc (qj _) (.cells #[.int .u64 nx, .slice D qs.length qc, .slice G zk.length A, .slice E hs.length F] 27)).alloc (by simp) (.cells #[.string q, .int .u64 id] 68) |>.alloc (by simp <;> omega) (.cells #[.int .u32 0, .string ⟨#[]⟩, .string ⟨#[]⟩] 30)
 have A1 : Blk (((w.alloc (.cells #[.int .u64 nx, .slice D qs.length qc, .slice G zk.length A, .slice E hs.length F] 27)).alloc (.cells #[.string q, .int .u64 id] 68)).alloc (.cells #[.int .u32 0, .string ⟨#[]⟩, .string ⟨#[]⟩] 30)) w.heap.size [.int .u64 nx, .slice D qs.length qc, .slice G zk.length A, .slice E hs.length F] := ((Blk.new w [.int .u64 nx, .slice D qs.length qc, .slice G zk.length A, .slice E hs.length F] 27).alloc _).alloc _
 have R1 : Blk (((w.alloc (.cells #[.int .u64 nx, .slice D qs.length qc, .slice G zk.length A, .slice E hs.length F] 27)).alloc (.cells #[.string q, .int .u64 id] 68)).alloc (.cells #[.int .u32 0, .string ⟨#[]⟩, .string ⟨#[]⟩] 30)) (w.heap.size + 1) [.string q, .int .u64 id] := (Blk.newE (w.alloc (.cells #[.int .u64 nx, .slice D qs.length qc, .slice G zk.length A, .slice E hs.length F] 27)) [.string q, .int .u64 id] 68 (w.heap.size + 1) (by simp)).alloc _
 have X1 : Blk (((w.alloc (.cells #[.int .u64 nx, .slice D qs.length qc, .slice G zk.length A, .slice E hs.length F] 27)).alloc (.cells #[.string q, .int .u64 id] 68)).alloc (.cells #[.int .u32 0, .string ⟨#[]⟩, .string ⟨#[]⟩] 30)) (w.heap.size + 2) [.int .u32 0, .string ⟨#[]⟩, .string ⟨#[]⟩] := Blk.newE ((w.alloc (.cells #[.int .u64 nx, .slice D qs.length qc, .slice G zk.length A, .slice E hs.length F] 27)).alloc (.cells #[.string q, .int .u64 id] 68)) [.int .u32 0, .string ⟨#[]⟩, .string ⟨#[]⟩] 30 (w.heap.size + 2) (by simp)
 have J := ajx al (((w.alloc (.cells #[.int .u64 nx, .slice D qs.length qc, .slice G zk.length A, .slice E hs.length F] 27)).alloc (.cells #[.string q, .int .u64 id] 68)).alloc (.cells #[.int .u32 0, .string ⟨#[]⟩, .string ⟨#[]⟩] 30)) _ P (z.pure N) (hT.pure N) hS
 rw [StT.arg_mk] at J
 obtain ⟨cc, X⟩ := zj ((StT.mk nx (.slice D qs.length qc) (.slice G zk.length A) (.slice E hs.length F) qs zk hs).s.chk)
 rw [← X] at J
 have J := qq J
 have ae := qq z
 have U : zk.length ≤ 1000000 := hS.b
 clear z hS hT
 have zx := ahk
 go_enter func18, ntmps18
 go_upto_region 1 with fail
 obtain ⟨u, hu⟩ := zj (((w.alloc (.cells #[.int .u64 nx, .slice D qs.length qc, .slice G zk.length A, .slice E hs.length F] 27)).alloc (.cells #[.string q, .int .u64 id] 68)).alloc (.cells #[.int .u32 0, .string ⟨#[]⟩, .string ⟨#[]⟩] 30))
 rw [← hu] at N A1 R1 X1 J ⊢
 clear hu zx
 obtain ⟨s0, s1, s2, s3⟩ := A1.a4
 rcases bbp (StT.mk nx (.slice D qs.length qc) (.slice G zk.length A) (.slice E hs.length F) qs zk hs).s with I | I
 ·obtain rfl : cc = 0 := X.trans I
  have ad := awg.1 I; have ab : Y = akv zk ⟨q, id⟩ := by rw [ac.out]; unfold St.lock; rw [qk (by rw [ad]; simp)]; rfl
  have W := qq ab; clear ab X I ad; go_upto_region 3 with (go_at_call 15; (with_reducible refine J.out.mono ?_); rintro e w2 ⟨rfl, M⟩); have O := N.trans (M.mono N.size); have A2 := A1.pure M; have R2 := R1.pure M; have h := X1.pure M; have ai := qq (aka w2 nx D qs.length qc G A E hs.length F zk q id P (ae.out.pure O).b (ae.out.pure O).e U); obtain ⟨a0, a1, a2, a3⟩ := A2.a4; obtain ⟨r0, r1⟩ := R2.a2; clear s0 s1 s2 s3; go_wp2_with (go_at_call 63; (with_reducible refine ai.out.mono ?_); rintro e w3 ⟨rfl, af⟩; rw [← W.out]; have X3 := h.pure af; obtain ⟨f0, f1, f2⟩ := X3.f3; obtain ⟨x0, x1, x2⟩ := X3.a3; obtain ⟨xf, xg, xb, aa⟩ : ∃ (xf : Int) (xg xb : ByteArray), xnV Y = .agg #[.int .u32 xf, .string xg, .string xb] := (by cases Y with | none => exact ⟨_, _, _, rfl⟩ | some x => exact ⟨_, _, _, rfl⟩); obtain ⟨bl, U⟩ := zj Y.isSome; rw [aa, ← U]; have aj := qq aa; have ah := qq U; clear aa U); have K := X3.ent3 (.int .u32 xf) (.string xg) (.string xb); have ak := O.trans (af.mono O.size); have Z := afo ak (B := w.heap.size + 2) (by omega) (.int .u32 xf) (.string xg) (.string xb); unfold ent3 at K Z; obtain ⟨k0, k1, k2⟩ := K.a3; refine bodyPost_ret (by simp [results, Tryz.results18, go_sem, k0, k1, k2]; rfl) rfl ?_; exact ⟨by rw [aj.out, ← ah.out], Z⟩
 ·obtain rfl : cc = 140 := X.trans I
  have ag : Y = none := by
   rw [ac.out]; unfold St.lock; rw [qw (Bool.eq_false_iff.2 (fun am => by rw [awg.2 am] at I; exact jp I (by decide)))]
  subst ag; clear X I; go_wp2_with (go_at_call 15; (with_reducible refine J.out.mono ?_); rintro e w2 ⟨rfl, M⟩; have h := X1.pure M; obtain ⟨f0, f1, f2⟩ := h.f3; obtain ⟨x0, x1, x2⟩ := h.a3); have K := h.ent3 (.int .u32 0) (.string ⟨#[]⟩) (.string ⟨#[]⟩); have O := N.trans (M.mono N.size); have Z := afo O (B := w.heap.size + 2) (by omega) (.int .u32 0) (.string ⟨#[]⟩) (.string ⟨#[]⟩); unfold ent3 at K Z; obtain ⟨k0, k1, k2⟩ := K.a3; refine bodyPost_ret (by simp [results, Tryz.results18, go_sem, k0, k1, k2]; rfl) rfl ?_; exact ⟨rfl, Z⟩
theorem bet {P : Prop} (h : P := by
 unfold ent3 at K hU
 obtain ⟨k0, k1, k2⟩ := K.a3
 refine bodyPost_ret (by simp [results, Tryz.results19, go_sem, k0, k1, k2]; rfl) rfl ?_
 exact ⟨by rw [hfin.out]; rfl, hU⟩) : P := h
theorem bf0 (w : World) (t : StT) (D : ByteArray) (A : Int) (P : Nat → Prop) (hR : StRd P w t) (hS : SmSt t) :
 Calls prog 19 #[t.arg, .agg #[.string D, .int .u64 A]] w fun e w' => e = .returned (.tuple #[xnV (t.s.lock ⟨D, A⟩), .bool (t.s.lock ⟨D, A⟩).isSome]) ∧ Below w.heap.size w w' := by
 obtain ⟨nx, G, qc, F, E, I, J, qs, zk, hs, rfl, -, -, -⟩ := hR.open
 rw [StT.arg_mk]
 obtain ⟨lk, an⟩ := qx ((StT.mk nx (.slice G qs.length qc) (.slice F zk.length E) (.slice I hs.length J) qs zk hs).s.lock ⟨D, A⟩)
 rw [an]
 have z := ((qz w.heap.size w).alloc (qj _) (.cells #[.int .u64 nx, .slice G qs.length qc, .slice F zk.length E, .slice I hs.length J] 27)).alloc (by simp) (.cells #[.string D, .int .u64 A] 68) |>.alloc (by simp <;> omega) (.cells #[.int .u32 0, .string ⟨#[]⟩, .string ⟨#[]⟩] 30)
 have A1 : Blk (((w.alloc (.cells #[.int .u64 nx, .slice G qs.length qc, .slice F zk.length E, .slice I hs.length J] 27)).alloc (.cells #[.string D, .int .u64 A] 68)).alloc (.cells #[.int .u32 0, .string ⟨#[]⟩, .string ⟨#[]⟩] 30)) w.heap.size [.int .u64 nx, .slice G qs.length qc, .slice F zk.length E, .slice I hs.length J] := ((Blk.new w [.int .u64 nx, .slice G qs.length qc, .slice F zk.length E, .slice I hs.length J] 27).alloc _).alloc _
 have R1 : Blk (((w.alloc (.cells #[.int .u64 nx, .slice G qs.length qc, .slice F zk.length E, .slice I hs.length J] 27)).alloc (.cells #[.string D, .int .u64 A] 68)).alloc (.cells #[.int .u32 0, .string ⟨#[]⟩, .string ⟨#[]⟩] 30)) (w.heap.size + 1) [.string D, .int .u64 A] := (Blk.newE (w.alloc (.cells #[.int .u64 nx, .slice G qs.length qc, .slice F zk.length E, .slice I hs.length J] 27)) [.string D, .int .u64 A] 68 (w.heap.size + 1) (by simp)).alloc _
 have X1 : Blk (((w.alloc (.cells #[.int .u64 nx, .slice G qs.length qc, .slice F zk.length E, .slice I hs.length J] 27)).alloc (.cells #[.string D, .int .u64 A] 68)).alloc (.cells #[.int .u32 0, .string ⟨#[]⟩, .string ⟨#[]⟩] 30)) (w.heap.size + 2) [.int .u32 0, .string ⟨#[]⟩, .string ⟨#[]⟩] := Blk.newE ((w.alloc (.cells #[.int .u64 nx, .slice G qs.length qc, .slice F zk.length E, .slice I hs.length J] 27)).alloc (.cells #[.string D, .int .u64 A] 68)) [.int .u32 0, .string ⟨#[]⟩, .string ⟨#[]⟩] 30 (w.heap.size + 2) (by simp)
 have bm : (zk.length : Int) ≤ 12 := by have : zk.length ≤ 12 := hS.b; omega
 obtain ⟨ok, ak⟩ := qx ((StT.mk nx (.slice G qs.length qc) (.slice F zk.length E) (.slice I hs.length J) qs zk hs).s.okB)
 obtain ⟨cc, aq⟩ : ∃ c : Int, (if ok = true then 0 else 140) = c := ⟨_, rfl⟩
 have ab : Calls prog 16 #[.agg #[.int .u64 nx, .slice G qs.length qc, .slice F zk.length E, .slice I hs.length J]] (((w.alloc (.cells #[.int .u64 nx, .slice G qs.length qc, .slice F zk.length E, .slice I hs.length J] 27)).alloc (.cells #[.string D, .int .u64 A] 68)).alloc (.cells #[.int .u32 0, .string ⟨#[]⟩, .string ⟨#[]⟩] 30)) fun e w' => e = .returned (.int .i64 cc) ∧ Below ((((w.alloc (.cells #[.int .u64 nx, .slice G qs.length qc, .slice F zk.length E, .slice I hs.length J] 27)).alloc (.cells #[.string D, .int .u64 A] 68)).alloc (.cells #[.int .u32 0, .string ⟨#[]⟩, .string ⟨#[]⟩] 30))).heap.size (((w.alloc (.cells #[.int .u64 nx, .slice G qs.length qc, .slice F zk.length E, .slice I hs.length J] 27)).alloc (.cells #[.string D, .int .u64 A] 68)).alloc (.cells #[.int .u32 0, .string ⟨#[]⟩, .string ⟨#[]⟩] 30)) w' := by
  rw [← aq, ← ak]; exact bfu (((w.alloc (.cells #[.int .u64 nx, .slice G qs.length qc, .slice F zk.length E, .slice I hs.length J] 27)).alloc (.cells #[.string D, .int .u64 A] 68)).alloc (.cells #[.int .u32 0, .string ⟨#[]⟩, .string ⟨#[]⟩] 30)) (StT.mk nx (.slice G qs.length qc) (.slice F zk.length E) (.slice I hs.length J) qs zk hs) P (hR.pure z) hS
 have ab := qq ab
 have aa := qq (show lk = if ok = false then none else akv zk ⟨D, A⟩ by rw [← an, ← ak]; rfl)
 have bg := qq hR; have bd := qq hS
 clear hR hS an ak
 have zx := ahk
 go_enter func19, ntmps19
 go_upto_region 1 with fail
 obtain ⟨u, hu⟩ := zj (((w.alloc (.cells #[.int .u64 nx, .slice G qs.length qc, .slice F zk.length E, .slice I hs.length J] 27)).alloc (.cells #[.string D, .int .u64 A] 68)).alloc (.cells #[.int .u32 0, .string ⟨#[]⟩, .string ⟨#[]⟩] 30))
 rw [← hu] at z A1 R1 X1 ab ⊢
 clear hu zx
 obtain ⟨s0, s1, s2, s3⟩ := A1.a4
 cases ok
 ·obtain rfl : 140 = cc := aq
  have hfin := qq (show lk = none from aa.out); go_wp2_with (go_at_call 16; (with_reducible refine ab.out.mono ?_); rintro e w2 ⟨rfl, Y⟩; have X2 := X1.pure Y; obtain ⟨f0, f1, f2⟩ := X2.f3; obtain ⟨x0, x1, x2⟩ := X2.a3); have ag := z.trans (Y.mono z.size); have K := X2.ent3 (.int .u32 0) (.string ⟨#[]⟩) (.string ⟨#[]⟩); have hU := afo ag (B := w.heap.size + 2) (by omega) (.int .u32 0) (.string ⟨#[]⟩) (.string ⟨#[]⟩); exact bet
 obtain rfl : 0 = cc := aq
 have aa := qq (show lk = akv zk ⟨D, A⟩ from aa.out)
 go_upto_region 3 with (go_at_call 16; (with_reducible refine ab.out.mono ?_); rintro e w2 ⟨rfl, Y⟩)
 have ag := z.trans (Y.mono z.size)
 have A2 := A1.pure Y; have R2 := R1.pure Y; have X2 := X1.pure Y
 clear s0 s1 s2 s3
 have a2 := A2.at 2 rfl
 go_wp2
 clear a2
 go_loopw [6, 7] (fun s6 s7 wr => ∃ k : Nat, k ≤ zk.length ∧ s6 = .int .i64 k ∧ Hid (∀ j, (h : j < zk.length) → j < k → decide (0 < aa8 zk[j].zy ⟨D, A⟩) = false) ∧ Below w2.heap.size w2 wr) (fun s6 s7 _ => zk.length - (intOf s6).toNat)
 case atStart => exact ⟨0, Nat.zero_le _, rfl, qq (fun j h h' => jp h' (by omega)), qz _ _⟩
 case round =>
  obtain ⟨k, hk, rfl, aj, M⟩ := hrel; have A3 := A2.pure M; have R3 := R2.pure M; have X3 := X2.pure M; have ah := ag.trans (M.mono ag.size); have b2 := A3.at 2 rfl; by_cases X : k < zk.length
  rotate_left 1
  ·obtain rfl : k = zk.length := by omega
   have hfin := qq (show lk = none by rw [aa.out]; exact ary (fun j h => aj.out j h h)); obtain ⟨f0, f1, f2⟩ := X3.f3; obtain ⟨x0, x1, x2⟩ := X3.a3; go_wp2; have K := X3.ent3 (.int .u32 0) (.string ⟨#[]⟩) (.string ⟨#[]⟩); have hU := afo ah (B := w.heap.size + 2) (by omega) (.int .u32 0) (.string ⟨#[]⟩) (.string ⟨#[]⟩); exact bet
  have bk : (k : Int) < (zk.length : Int) := by omega
  have bn : (0 : Int) ≤ (k : Int) := by omega
  have ai := bg.out.pure ah; have ae : Slc aa7 5 wr (.slice F zk.length E) zk := ai.b; obtain ⟨g, off, rfl⟩ := ae.addrB X; obtain ⟨xf, xg, xb, pa, pc, ta, tc, zu, N, W, -⟩ := adq ae X (ai.e _ (qy X)); have am := ai.e _ (qy X); have al := (bd.out.bs _ (qy X)).t; rw [W] at am al; have al : N.length ≤ 20 := al; have bl : (N.length : Int) ≤ 20 := by omega
  have U : Slc abc 2 wr (.slice ta N.length tc) N := am.s; have bi := qq (show zk[k].x = (xf, xg, xb) by rw [W]); have au := qq (show zk[k].zy = N by rw [W]); have ad := qq (fun (v : World) (h : Below wr.heap.size wr v) => ach (ae.pure h) X W); have a1 := qq U; obtain ⟨wo, rfl⟩ := zj wr; have ax := qq M; obtain ⟨c0, c1, c2, c3, c4⟩ := ad.out _ (qz _ _); clear ai ae W am U M; go_wp2; clear b2 c0 c1 c2 c3 c4; go_loopw [7] (fun s7 wr => ∃ j : Nat, j ≤ N.length ∧ s7 = .int .i64 j ∧ Hid (∀ x, (h : x < N.length) → x < j → N[x] ≠ ⟨D, A⟩) ∧ Below wo.heap.size wo wr) (fun s7 _ => N.length - (intOf s7).toNat)
  case atStart => exact ⟨0, Nat.zero_le _, rfl, qq (fun j h h' => jp h' (by omega)), qz _ _⟩
  case round =>
   obtain ⟨j, hj, rfl, ar, M⟩ := hrel; have A4 := A3.pure M; have R4 := R3.pure M; have X4 := X3.pure M; have b2 := A4.at 2 rfl; obtain ⟨c0, c1, c2, c3, c4⟩ := ad.out _ M; by_cases ac : j < N.length
   rotate_left 1
   ·obtain rfl : j = N.length := by omega
    have a0 := qq (show ∀ j, (h : j < zk.length) → j < k + 1 → decide (0 < aa8 zk[j].zy ⟨D, A⟩) = false from fun j h hj => by
     rcases Nat.lt_or_ge j k with q | q
     ·exact aj.out j h q
     ·obtain rfl : j = k := by omega
      refine qg (fun h0 => ?_); rw [au.out] at h0; obtain ⟨x, W, hq⟩ := List.getElem_of_mem (abq.1 h0)
      exact ar.out x W W hq)
    go_wp2; go_roundw
    case rel => exact ⟨k + 1, by omega, by go_num, a0, ax.out.trans (M.mono ax.out.size)⟩
    case measure => simp [intOf]; omega
   have bj : (j : Int) < (N.length : Int) := by omega
   have bo : (0 : Int) ≤ (j : Int) := by omega
   have U := a1.out.pure M; obtain ⟨g2, av, rfl⟩ := U.addrB ac; obtain ⟨q2, i2, hy, -, -⟩ := ado U ac; have bh := qq (fun (v : World) (h : Below wr.heap.size wr v) => show v.cell? ⟨g2, av + j * 2, none⟩ = some (.string q2) ∧ v.cell? ⟨g2, av + j * 2 + 1, none⟩ = some (.int .u64 i2) from ⟨(U.pure h).get j ac 0 (.string q2) (by rw [hy]; rfl), (U.pure h).get j ac 1 (.int .u64 i2) (by rw [hy]; rfl)⟩); have bb := qq (fun (v : World) (h : Below wr.heap.size wr v) => ad.out v (M.trans (h.mono M.size))); obtain ⟨b, ao⟩ := qx (acz ⟨q2, i2⟩ ⟨D, A⟩); have hq := fun (u : World) => (bah u q2 D i2 A).trans (show _ = Result.ok (.bool b) u by rw [ao])
   have ay := qq (show acz N[j] ⟨D, A⟩ = b by rw [hy, ao]); clear U hy ao; go_upto_region 9 with fail; clear b2 c0 c1 c2 c3 c4; have hb := aan (qz wr.heap.size wr); refine aal (fun v => Below wr.heap.size wr v) hb (fun O => ?_); refine tkH 0 O ?_; refine tkF 1 O ?_ (fun v Z => (A4.pure Z).at 2 rfl); refine tkH 2 O ?_; refine tkH 3 O ?_; refine tkH 4 O ?_; refine tkF 5 O ?_ (fun v Z => bb.out _ Z); refine tkH 6 O ?_; refine tkH 7 O ?_; refine tkF 8 O ?_ (fun v Z => bh.out _ Z); refine tkF 9 O ?_ (fun v Z => (R4.pure Z).a2); refine tkH 10 O ?_; refine ah9 ?_; clear hq; have af := M.trans (hb.mono M.size); cases b
   ·have az := qq (show ∀ x, (h : x < N.length) → x < j + 1 → N[x] ≠ ⟨D, A⟩ from fun x h hj => by
     rcases Nat.lt_or_ge x j with q | q
     ·exact ar.out x h q
     ·obtain rfl : x = j := by omega
      intro e; have := ay.out; rw [abt.2 e] at this
      cases this)
    go_wp2; go_roundw
    case rel => exact ⟨j + 1, by omega, by go_num, az, af⟩
    case measure => simp [intOf]; omega
   ·have hfin := qq (show lk = some (xf, xg, xb) by rw [aa.out, ← bi.out]; exact arz X aj.out (qp (by rw [au.out]; exact abq.2 (abt.1 ay.out ▸ qy ac))))
    have X5 := X4.pure hb; have A5 := A4.pure hb; obtain ⟨wd, aw⟩ := zj wr.drew; rw [← aw] at af X5 A5 ⊢; clear aw hb; have b2 := A5.at 2 rfl; obtain ⟨c0, c1, c2, -, -⟩ := ad.out _ af; obtain ⟨f0, f1, f2⟩ := X5.f3; obtain ⟨x0, x1, x2⟩ := X5.a3; have bf := ah.trans (af.mono ah.size); go_wp2; have K := X5.ent3 (.int .u32 xf) (.string xg) (.string xb); have hU := afo bf (B := w.heap.size + 2) (by omega) (.int .u32 xf) (.string xg) (.string xb); exact bet
theorem bhk {w u x y : World} (D : Below w.heap.size w u) (A : Below u.heap.size u x) (E : Below x.heap.size x y) : Below w.heap.size w y := D.trans ((A.trans (E.mono A.size)).mono D.size)
theorem bhl (ay : ayk) (w : World) (t : StT) (M : ByteArray) (N : Int) (P : Nat → Prop) (hR : StRd P w t) (hT : Tb w) : Calls prog 5 #[t.arg, .agg #[.string M, .int .u64 N]] w fun r W => r = .returned (.bool true) ∧ Below w.heap.size w W := by
 obtain ⟨nx, D, qc, G, A, E, F, qs, zk, hs, rfl, -, -, -⟩ := hR.open
 rw [StT.arg_mk]
 have I := ((qz w.heap.size w).alloc (qj _) (.cells #[.int .u64 nx, .slice D qs.length qc, .slice G zk.length A, .slice E hs.length F] 27)).alloc (by simp) (.cells #[.string M, .int .u64 N] 68)
 have A2 : Blk ((w.alloc (.cells #[.int .u64 nx, .slice D qs.length qc, .slice G zk.length A, .slice E hs.length F] 27)).alloc (.cells #[.string M, .int .u64 N] 68)) w.heap.size [.int .u64 nx, .slice D qs.length qc, .slice G zk.length A, .slice E hs.length F] := (Blk.new w [.int .u64 nx, .slice D qs.length qc, .slice G zk.length A, .slice E hs.length F] 27).alloc _
 have R2 : Blk ((w.alloc (.cells #[.int .u64 nx, .slice D qs.length qc, .slice G zk.length A, .slice E hs.length F] 27)).alloc (.cells #[.string M, .int .u64 N] 68)) (w.heap.size + 1) [.string M, .int .u64 N] := Blk.newE (w.alloc (.cells #[.int .u64 nx, .slice D qs.length qc, .slice G zk.length A, .slice E hs.length F] 27)) [.string M, .int .u64 N] 68 (w.heap.size + 1) (by simp)
 have ad := qq ay; have ab := qq (hT.pure I); have aa := qq (hR.pure I)
 clear ay hT hR
 obtain ⟨u, hu⟩ := zj ((w.alloc (.cells #[.int .u64 nx, .slice D qs.length qc, .slice G zk.length A, .slice E hs.length F] 27)).alloc (.cells #[.string M, .int .u64 N] 68))
 rw [← hu] at I A2 R2 ab aa
 have ao := qq hu
 clear hu
 go_enter func5, ntmps5
 go_upto_region 1 with fail
 rw [← ao.out]
 have ar := qq I
 clear ao I
 obtain ⟨Z, s1, z, Y⟩ := A2.a4; obtain ⟨X, r1⟩ := R2.a2
 obtain ⟨Q1, al⟩ := qx (SmSt (StT.mk nx (.slice D qs.length qc) (.slice G zk.length A) (.slice E hs.length F) qs zk hs))
 have ag := apt (StT.mk nx (.slice D qs.length qc) (.slice G zk.length A) (.slice E hs.length F) qs zk hs) P u aa.out
 rw [al, StT.arg_mk] at ag
 have an := qq ag; have am := qq al
 clear ag al
 go_wp2_with fail
 refine an.out.mono ?_
 rintro e u2 ⟨⟨b, rfl, hb⟩, I⟩
 have ax := qq hb
 clear hb Z s1 z Y X r1
 cases b
 ·go_wp2_with (go_at_call 9; (with_reducible refine (ahc ad.out _ (ab.out.pure I)).mono ?_); rintro e w9 ⟨rfl, af⟩)
  go_ret; exact ⟨rfl, bhk ar.out I af⟩
 have au := qq (show SmSt (StT.mk nx (.slice D qs.length qc) (.slice G zk.length A) (.slice E hs.length F) qs zk hs) by rw [am.out]; have a1 := ax.out; simpa using a1)
 clear ax an am
 obtain ⟨lk, ai⟩ := qx ((StT.mk nx (.slice D qs.length qc) (.slice G zk.length A) (.slice E hs.length F) qs zk hs).s.lock ⟨M, N⟩)
 obtain ⟨K, J, O, ae⟩ : ∃ (K : Int) (J O : ByteArray), xnV lk = .agg #[.int .u32 K, .string J, .string O] := by cases lk with | none => exact ⟨_, _, _, rfl⟩ | some x => exact ⟨_, _, _, rfl⟩
 obtain ⟨bl, ah⟩ := qx lk.isSome
 have a0 := qq (show ∀ v, Below u.heap.size u v → Calls prog 18 #[.agg #[.int .u64 nx, .slice D qs.length qc, .slice G zk.length A, .slice E hs.length F], .agg #[.string M, .int .u64 N]] v fun e W => e = .returned (.tuple #[.agg #[.int .u32 K, .string J, .string O], .bool bl]) ∧ Below v.heap.size v W from fun v hv => by
  rw [← ae, ← ah, ← ai]; exact an9 ad.out v (StT.mk nx (.slice D qs.length qc) (.slice G zk.length A) (.slice E hs.length F) qs zk hs) M N P (aa.out.pure hv) (ab.out.pure hv) au.out.sm)
 have az := qq (show ∀ v, Below u.heap.size u v → Calls prog 19 #[.agg #[.int .u64 nx, .slice D qs.length qc, .slice G zk.length A, .slice E hs.length F], .agg #[.string M, .int .u64 N]] v fun e W => e = .returned (.tuple #[.agg #[.int .u32 K, .string J, .string O], .bool bl]) ∧ Below v.heap.size v W from fun v hv => by
  rw [← ae, ← ah, ← ai]; exact bf0 v (StT.mk nx (.slice D qs.length qc) (.slice G zk.length A) (.slice E hs.length F) qs zk hs) M N P (aa.out.pure hv) au.out)
 clear ai ae ah
 have A3 := A2.pure I; have R3 := R2.pure I
 obtain ⟨Z, s1, z, Y⟩ := A3.a4; obtain ⟨X, r1⟩ := R3.a2
 go_upto_region 4 with (go_at_call 18; (with_reducible refine (a0.out _ I).mono ?_); rintro e u3 ⟨rfl, aq⟩)
 clear Z s1 z Y X r1
 have U := (qz u3.heap.size u3).alloc (qj _) (.cells #[.int .u32 K, .string J, .string O] 30)
 have N4 := Blk.new u3 [.int .u32 K, .string J, .string O] 30
 obtain ⟨n4, hn⟩ := zj u3.heap.size
 obtain ⟨u4, h⟩ := zj (u3.alloc (.cells #[.int .u32 K, .string J, .string O] 30))
 rw [← h] at N4 U ⊢
 rw [← hn] at N4 ⊢
 have ac := aq.trans (U.mono aq.size)
 have aj := I.trans (ac.mono I.size)
 have A4 := A3.pure ac; have R4 := R3.pure ac
 clear h hn U ac
 obtain ⟨Z, s1, z, Y⟩ := A4.a4; obtain ⟨X, r1⟩ := R4.a2
 go_upto_region 5 with (go_at_call 19; (with_reducible refine (az.out _ aj).mono ?_); rintro e u5 ⟨rfl, aw⟩)
 clear Z s1 z Y X r1
 have U := (qz u5.heap.size u5).alloc (qj _) (.cells #[.int .u32 K, .string J, .string O] 30)
 have N6 := Blk.new u5 [.int .u32 K, .string J, .string O] 30
 obtain ⟨n6, hn⟩ := zj u5.heap.size
 obtain ⟨u6, h⟩ := zj (u5.alloc (.cells #[.int .u32 K, .string J, .string O] 30))
 rw [← h] at N6 U ⊢
 rw [← hn] at N6 ⊢
 have ak := aw.trans (U.mono aw.size)
 have av := aj.trans (ak.mono aj.size)
 have N5 := N4.pure ak
 clear h hn U ak
 obtain ⟨p0, p1, p2⟩ := N5.a3; obtain ⟨q0, q1, q2⟩ := N6.a3
 have qE := fun (y : World) => (azr y K K J O J O).trans (show _ = Result.ok (.bool true) y by rw [bge, qp rfl])
 go_wp2_with (go_at_call 9; (with_reducible refine (ahc ad.out _ (ab.out.pure av)).mono ?_); rintro e w9 ⟨rfl, af⟩)
 go_ret
 exact ⟨by simp, bhk ar.out av af⟩
theorem bfh (w : World) {t : StT} {r : Rf} {P : Nat → Prop} (D : StRd P w t) (_ : 0 ≤ r.id ∧ r.id < 18446744073709551616) (A : Tb w) :
 Calls prog 5 #[t.arg, .agg #[.string r.q, .int .u64 r.id]] w fun e E => e = .returned (.bool true) ∧ Below w.heap.size w E :=
 bhl (fun t P w D A => arl t P w D A) w t r.q r.id P D A
open Go.ChangeShapes Go.WideShapes Go.ChangeAt Go.RowKit _root_.Go.Proofs.Tryz
section
variable {H : Type} {enc : TypeId × Value → H} {P : Program} {w : World} {base : Nat} {spare : Nat → Bool} {held : Bool}
theorem ags {P : Prop} (h : P := by
 rw [h1] at e
 have : ((cs.drop o).take 1)[0]? = some c := by rw [List.getElem?_take]; simp [hc]
 rw [e] at this
 simpa using this.symm) : P := h
theorem acl {k : IntKind} {m : Nat} {t o : Nat} {cs : List Value} {c : Value} (hi : P.underlying t = some (.int k)) (h1 : P.cellsOf t = 1) (hc : cs[o]? = some c) (h : ∃ z, DataW.trod enc P w base spare held m t ((cs.drop o).take (P.cellsOf t)) = some z) :
 ∃ a, c = .int k a ∧ (Lit.int k a).wf = true := by
 obtain ⟨z, h⟩ := h
 obtain ⟨a, e, _, A⟩ := DataW.trod_int hi h
 refine ⟨a, ?_, A⟩
 exact ags
theorem ahw {m : Nat} {t o : Nat} {cs : List Value} {c : Value} (hi : P.underlying t = some .bool) (h1 : P.cellsOf t = 1) (hc : cs[o]? = some c) (h : ∃ z, DataW.trod enc P w base spare held m t ((cs.drop o).take (P.cellsOf t)) = some z) :
 ∃ a, c = .bool a := by
 obtain ⟨z, h⟩ := h
 obtain ⟨a, e, _⟩ := DataW.trod_bool hi h
 refine ⟨a, ?_⟩
 exact ags
theorem abb {m : Nat} {t o : Nat} {cs : List Value} {c : Value} (hi : P.underlying t = some .string) (h1 : P.cellsOf t = 1) (hc : cs[o]? = some c) (h : ∃ z, DataW.trod enc P w base spare held m t ((cs.drop o).take (P.cellsOf t)) = some z) :
 ∃ s : ByteArray, c = .string s ∧ s.size ≤ maxLen := by
 obtain ⟨z, h⟩ := h
 obtain ⟨s, e, _, A⟩ := DataW.trod_string hi h
 refine ⟨s, ?_, A⟩
 exact ags
end
section
variable {H : Type} {enc : TypeId × Value → H} {P : Program} {w : World} {base : Nat} {spare : Nat → Bool} {held : Bool}
theorem acm {J : Type} {I : J → List Value} {Wf : J → Prop} {m : Nat} {t e : TypeId} {v : Value} (ht : P.underlying t = some (.slice e)) (hc : P.cellsOf e = m) (hm : 0 < m)
 {W : Nat} {ad : DataW H × List MemPlace} (ab : ∀ n h y, n < W → DataW.trod enc P w base spare held n e h = some y → ∃ x, h = I x ∧ Wf x)
 (Z : ∃ a len E, v = .slice a len E) (hf : DataW.trod enc P w base spare held W t [v] = some ad) :
 ∃ L : List J, Slc I m w v L ∧ ∀ x ∈ L, Wf x := by
 rcases DataW.trod_slice ht hf with ⟨O, G⟩ | ⟨a, len, E, z, ae, n, af, O, G, hb, hl, X, M, hi, -⟩
 ·refine ⟨[], .inl ⟨none, 0, ?_, by simp, rfl⟩, by simp⟩
  obtain ⟨a, l, c, rfl⟩ := Z; simpa [Value.cells] using O
 ·have hv : v = .slice (some a) len E := by obtain ⟨a, l, c, rfl⟩ := Z; simpa [Value.cells] using O
  subst hv
  have key : ∀ i, i < len → ∃ x, Wf x ∧ w.cells? base (a.add (i * m)) m = some (I x) := by
   intro i F
   obtain ⟨N, D, A⟩ : ∃ N, w.cells? base (a.add (i * P.cellsOf e)) (P.cellsOf e) = some N ∧ DataW.trod enc P w base spare held n e N = some z[i] := by
    have := hi i F; rw [List.getElem?_eq_getElem (by omega)] at this; exact Option.bind_eq_some_iff.1 this
   obtain ⟨x, rfl, hw⟩ := ab n _ _ (by omega) A; rw [hc] at D; exact ⟨x, hw, D⟩
  by_cases h0 : len = 0
  ·subst h0; exact ⟨[], .inl ⟨some a, E, rfl, X, rfl⟩, by simp⟩
  have aa : a.spot = none := by
   obtain ⟨x, _, D⟩ := key 0 (by omega); obtain ⟨_, M, K⟩ := World.cells?_some D; have A := K 0 (by omega); simp only [Nat.zero_mul] at A; have e1 : (a.add 0).add 0 = a := by simp [Addr.add]
   rw [e1] at A; have h3 : 0 < (I x).length := by omega
   rw [List.getElem?_eq_getElem h3] at A; exact World.cell?_spot A
  haveI : Inhabited J := ⟨(key 0 (by omega)).choose⟩
  obtain ⟨f, Y⟩ := Deep.choose_lt key; refine ⟨(List.range len).map f, .inr ⟨a.block, a.off, E, ?_, by simpa using hl, X, ?_⟩, ?_⟩
  ·have : a = ⟨a.block, a.off, none⟩ := by obtain ⟨b, o, s⟩ := a; simp_all
   simp [← this]
  ·intro i F j u U
   simp only [jf, List.length_range] at F; simp only [zq, List.getElem_range] at U; obtain ⟨_, D⟩ := Y i F; obtain ⟨_, M, K⟩ := World.cells?_some D; have hj : j < m := by rw [← M]; exact (List.getElem?_eq_some_iff.1 U).1
   have A := K j hj; rw [U, Deep.add_add, bbh a aa, ← Nat.add_assoc] at A; exact A
  ·intro x G
   rw [jv] at G; obtain ⟨i, ac, rfl⟩ := G; exact (Y i (List.mem_range.1 ac)).1
end
section
variable {H : Type} {enc : TypeId × Value → H} {w : World} {base : Nat} {spare : Nat → Bool} {held : Bool}
theorem abo {t e : TypeId} {n : Nat} {c : Value} {y : DataW H × List MemPlace} (E : prog.underlying t = some (.slice e)) (h : DataW.trod enc prog w base spare held n t [c] = some y) : ∃ a l D, c = .slice a l D := by
 rcases DataW.trod_slice E h with ⟨A, _⟩ | ⟨a, len, D, _, _, _, _, A, _⟩
 ·simp only [List.cons.injEq, and_true] at A; exact ⟨_, _, _, A⟩
 ·simp only [List.cons.injEq, and_true] at A; exact ⟨_, _, _, A⟩
theorem aau {t : TypeId} {D : Array Field} {n : Nat} {A : List Value} {y : DataW H × List MemPlace} (J : prog.underlying t = some (.struct D)) (h : DataW.trod enc prog w base spare held n t A = some y) :
 A.length = prog.cellsOf t ∧ ∃ m, n = m + 1 ∧ ∀ (i : Nat) (f : Field), D[i]? = some f → ∃ z, DataW.trod enc prog w base spare held m f.type ((A.drop f.offset).take (prog.cellsOf f.type)) = some z := by
 obtain ⟨K, n', rfl, -, M, F, I⟩ := DataW.trod_struct J h
 refine ⟨M, n', rfl, fun i f hi => ?_⟩
 have G : i < K.length := by rw [F]; exact (Array.getElem?_eq_some_iff.1 hi).1
 have E := I i f hi
 rw [List.getElem?_eq_getElem G] at E
 exact ⟨_, E⟩
theorem ax2 : ∀ (D : Nat) (A : List Value) (y : DataW H × List MemPlace), DataW.trod enc prog w base spare held D 56 A = some y → ∃ t : VT, A = ac6 t ∧ Rd (fun _ => True) w t := by
 intro D
 induction D using Nat.strongRecOn with
 | ind D ih =>
  intro A y aa; obtain ⟨G, n, rfl, g⟩ := aau underlying56 aa; have I : prog.cellsOf 56 = 5 := by kernel_rfl
  have h : prog.cellsOf 52 = 1 := by kernel_rfl
  have W : prog.cellsOf 22 = 1 := by kernel_rfl
  have K : prog.cellsOf 9 = 1 := by kernel_rfl
  have U : prog.cellsOf 53 = 1 := by kernel_rfl
  have O : prog.cellsOf 54 = 1 := by kernel_rfl
  rw [I] at G
  match A, G with
  | [a0, a1, a2, a3, a4], _ =>
   obtain ⟨k, rfl, wk⟩ := acl underlying52 h (o := 0) (c := a0) rfl (g 0 _ rfl); obtain ⟨m, rfl, wm⟩ := acl underlying22 W (o := 1) (c := a1) rfl (g 1 _ rfl); obtain ⟨s, rfl, ws⟩ := abb underlying9 K (o := 2) (c := a2) rfl (g 2 _ rfl); obtain ⟨X, Z⟩ := g 3 _ rfl; obtain ⟨Y, z⟩ := g 4 _ rfl; have F : DataW.trod enc prog w base spare held n 53 (([.int .u8 k, .int .u64 m, .string s, a3, a4].drop 3).take (prog.cellsOf 53)) = some X := Z; have E : DataW.trod enc prog w base spare held n 54 (([.int .u8 k, .int .u64 m, .string s, a3, a4].drop 4).take (prog.cellsOf 54)) = some Y := z; rw [U] at F; rw [O] at E; simp only [List.drop_succ_cons, List.drop_zero, List.take_succ_cons, List.take_zero] at F E
   obtain ⟨ks, hK, -⟩ := acm (I := abv) (Wf := fun _ => True) (m := 1) underlying53 K (by omega) (fun n A y _ hy => by
    obtain ⟨x, rfl, _, _⟩ := DataW.trod_string underlying9 hy
    exact ⟨x, rfl, trivial⟩) (abo underlying53 F) F
   obtain ⟨L, hL, N⟩ := acm (I := ac6) (Wf := fun t => Rd (fun _ => True) w t) (m := 5) underlying54 I (by omega) (fun n' A y hn hy => ih n' (by omega) A y hy) (abo underlying54 E) E; have M := bounds_u8 wk
   have J : 0 ≤ m ∧ m < 18446744073709551616 := by
    simp [Lit.wf, IntKind.min, IntKind.max, IntKind.signed, IntKind.bits] at wm; omega
   exact ⟨.mk k m s a3 a4 ks L, rfl, .mk hK (fun _ _ _ => trivial) hL (fun _ _ _ => trivial) N J.1 J.2 M.1 (by have := M.2; show k < 256; omega)⟩
end
def bch : List (String × DataW Unit) := [("unicode/utf8.acceptRanges", Rows.laid_unicode_utf8_acceptRanges), ("unicode/utf8.first", Rows.laid_unicode_utf8_first)]
theorem avo : Rows.laid_unicode_utf8_acceptRanges = Lib.acceptData := by kernel_rfl
theorem ar6 {w : World} (A : laidMet prog bch w) : Tb w :=
 utf8Tabs_of_reads { ayd with } ⟨by kernel_rfl, by kernel_rfl, by kernel_rfl, by kernel_rfl, by kernel_rfl, by kernel_rfl, by kernel_rfl⟩ (Pinned.utf8First_eq ▸ Lib.laidMet.reads A (.tail _ (.head _))) (avo ▸ Lib.laidMet.reads A (.head _))
section
variable {H : Type} {enc : TypeId × Value → H} {w : World} {base : Nat} {spare : Nat → Bool} {held : Bool}
def bdu (t : PT) : List Value := [.string t.key, .bool t.dur, .bool t.red, .string t.mid, .int .u8 t.app.k, .int .u64 t.app.n, .string t.app.s, t.app.kv, t.app.lv]
theorem aob (J : Nat) (D : List Value) (y : DataW H × List MemPlace) (h : DataW.trod enc prog w base spare held J 58 D = some y) : ∃ t : PT, D = bdu t ∧ Rd (fun _ => True) w t.app := by
 obtain ⟨I, n, rfl, g⟩ := aau underlying58 h
 have K : prog.cellsOf 58 = 9 := by kernel_rfl
 have O : prog.cellsOf 56 = 5 := by kernel_rfl
 have F : prog.cellsOf 4 = 1 := by kernel_rfl
 have G : prog.cellsOf 9 = 1 := by kernel_rfl
 rw [K] at I
 match D, I with
 | [a0, a1, a2, a3, a4, a5, a6, a7, a8], _ =>
  obtain ⟨key, rfl, _⟩ := abb underlying9 G (o := 0) (c := a0) rfl (g 0 _ rfl); obtain ⟨E, rfl⟩ := ahw underlying4 F (o := 1) (c := a1) rfl (g 1 _ rfl); obtain ⟨red, rfl⟩ := ahw underlying4 F (o := 2) (c := a2) rfl (g 2 _ rfl); obtain ⟨mid, rfl, _⟩ := abb underlying9 G (o := 3) (c := a3) rfl (g 3 _ rfl); obtain ⟨N, U⟩ := g 4 _ rfl; have A : DataW.trod enc prog w base spare held n 56 (([.string key, .bool E, .bool red, .string mid, a4, a5, a6, a7, a8].drop 4).take (prog.cellsOf 56)) = some N := U; rw [O] at A; simp only [List.drop_succ_cons, List.drop_zero, List.take_succ_cons, List.take_zero] at A; obtain ⟨t, W, M⟩ := ax2 n _ _ A; refine ⟨.mk key E red mid t, ?_, M⟩; show [_, _, _, _, a4, a5, a6, a7, a8] = [_, _, _, _] ++ ac6 t
  rw [← W]; rfl
end
theorem EnRd.low {P : Nat → Prop} {w : World} {t : EnT} (h : EnRd P w t) : EnRd (fun i => i < w.heap.size) w t :=
 ⟨h.p, fun k e n => (aez aae (by omega) h.p n k e), fun x A => (h.r x A).lt.weaken (fun i _ hi => hi.2), h.s, fun k e n => (aez aa9 (by omega) h.s n k e), h.wf⟩
section
variable {H : Type} {enc : TypeId × Value → H} {w : World} {base : Nat} {spare : Nat → Bool} {held : Bool}
theorem adv {m : Int} (h : (Lit.int .u64 m).wf = true) : 0 ≤ m ∧ m < 18446744073709551616 := by
 simp [Lit.wf, IntKind.min, IntKind.max, IntKind.signed, IntKind.bits] at h
 omega
theorem ar7 {m : Int} (h : (Lit.int .u32 m).wf = true) : 0 ≤ m ∧ m < 4294967296 := by
 simp [Lit.wf, IntKind.min, IntKind.max, IntKind.signed, IntKind.bits] at h
 omega
theorem aqy (J : Nat) (E : List Value) (y : DataW H × List MemPlace) (h : DataW.trod enc prog w base spare held J 64 E = some y) : ∃ t : PtT, E = aat t ∧ (0 ≤ t.id ∧ t.id < 18446744073709551616) ∧ Rd (fun _ => True) w t.pr.app := by
 obtain ⟨I, n, rfl, g⟩ := aau underlying64 h
 have K : prog.cellsOf 64 = 12 := by kernel_rfl
 have X : prog.cellsOf 58 = 9 := by kernel_rfl
 have M : prog.cellsOf 22 = 1 := by kernel_rfl
 have G : prog.cellsOf 9 = 1 := by kernel_rfl
 rw [K] at I
 match E, I with
 | [a0, a1, a2, a3, a4, a5, a6, a7, a8, a9, a10, a11], _ =>
  obtain ⟨q, rfl, _⟩ := abb underlying9 G (o := 0) (c := a0) rfl (g 0 _ rfl); obtain ⟨id, rfl, W⟩ := acl underlying22 M (o := 1) (c := a1) rfl (g 1 _ rfl); obtain ⟨F, rfl, _⟩ := abb underlying9 G (o := 11) (c := a11) rfl (g 3 _ rfl); obtain ⟨N, U⟩ := g 2 _ rfl; have D : DataW.trod enc prog w base spare held n 58 (([.string q, .int .u64 id, a2, a3, a4, a5, a6, a7, a8, a9, a10, .string F].drop 2).take (prog.cellsOf 58)) = some N := U; rw [X] at D; simp only [List.drop_succ_cons, List.drop_zero, List.take_succ_cons, List.take_zero] at D; obtain ⟨t, A, O⟩ := aob n _ _ D; refine ⟨⟨q, id, t, F⟩, ?_, adv W, O⟩; unfold bdu at A; injection A with e2 A; injection A with e3 A; injection A with e4 A; injection A with e5 A; injection A with e6 A; injection A with e7 A; injection A with e8 A; injection A with e9 A; injection A with e10 A; subst e2; subst e3; subst e4; subst e5; subst e6; subst e7; subst e8; subst e9; subst e10; rfl
theorem aqz (E : Nat) (A : List Value) (y : DataW H × List MemPlace) (h : DataW.trod enc prog w base spare held E 68 A = some y) : ∃ r : Rf, A = abc r ∧ (0 ≤ r.id ∧ r.id < 18446744073709551616) := by
 obtain ⟨D, n, rfl, g⟩ := aau underlying68 h
 have F : prog.cellsOf 68 = 2 := by kernel_rfl
 have I : prog.cellsOf 22 = 1 := by kernel_rfl
 have J : prog.cellsOf 9 = 1 := by kernel_rfl
 rw [F] at D
 match A, D with
 | [a0, a1], _ =>
  obtain ⟨q, rfl, _⟩ := abb underlying9 J (o := 0) (c := a0) rfl (g 0 _ rfl); obtain ⟨id, rfl, G⟩ := acl underlying22 I (o := 1) (c := a1) rfl (g 1 _ rfl); exact ⟨⟨q, id⟩, rfl, adv G⟩
theorem akn (J : Nat) (D : List Value) (y : DataW H × List MemPlace) (h : DataW.trod enc prog w base spare held J 30 D = some y) : ∃ (A : Int) (E F : ByteArray), D = [.int .u32 A, .string E, .string F] ∧ (0 ≤ A ∧ A < 4294967296) := by
 obtain ⟨I, n, rfl, g⟩ := aau underlying30 h
 have K : prog.cellsOf 30 = 3 := by kernel_rfl
 have N : prog.cellsOf 28 = 1 := by kernel_rfl
 have G : prog.cellsOf 9 = 1 := by kernel_rfl
 rw [K] at I
 match D, I with
 | [a0, a1, a2], _ =>
  obtain ⟨A, rfl, M⟩ := acl underlying28 N (o := 0) (c := a0) rfl (g 0 _ rfl); obtain ⟨E, rfl, _⟩ := abb underlying9 G (o := 1) (c := a1) rfl (g 1 _ rfl); obtain ⟨F, rfl, _⟩ := abb underlying9 G (o := 2) (c := a2) rfl (g 2 _ rfl); exact ⟨A, E, F, rfl, ar7 M⟩
end
section
variable {H : Type} {enc : TypeId × Value → H} {w : World} {base : Nat} {spare : Nat → Bool} {held : Bool}
theorem ax3 (M : Nat) (F : List Value) (y : DataW H × List MemPlace) (aa : DataW.trod enc prog w base spare held M 60 F = some y) : ∃ t : MsT, F = abl t ∧ (0 ≤ t.id ∧ t.id < 18446744073709551616) ∧ Rd (fun _ => True) w t.pr.app := by
 obtain ⟨J, n, rfl, g⟩ := aau underlying60 aa
 have hc : prog.cellsOf 60 = 11 := by kernel_rfl
 have c0 : prog.cellsOf 58 = 9 := by kernel_rfl
 have c1 : prog.cellsOf 22 = 1 := by kernel_rfl
 have c2 : prog.cellsOf 9 = 1 := by kernel_rfl
 rw [hc] at J
 match F, J with
 | [a1, a2, a3, a4, a5, a6, a7, a8, a9, a10, a11], _ =>
  obtain ⟨id, rfl, wi⟩ := acl underlying22 c1 (o := 0) (c := a1) rfl (g 0 _ rfl); obtain ⟨G, rfl, _⟩ := abb underlying9 c2 (o := 10) (c := a11) rfl (g 2 _ rfl); obtain ⟨z1, h⟩ := g 1 _ rfl; have E : DataW.trod enc prog w base spare held n 58 (([.int .u64 id, a2, a3, a4, a5, a6, a7, a8, a9, a10, .string G].drop 1).take (prog.cellsOf 58)) = some z1 := h; rw [c0] at E; simp only [List.drop_succ_cons, List.drop_zero, List.take_succ_cons, List.take_zero] at E; obtain ⟨t, A, D⟩ := aob n _ _ E; obtain ⟨key, Y, red, mid, pv⟩ := t; have D : Rd (fun _ => True) w pv := D; have U := D; obtain ⟨z, Z, us, O, W, X, N, I, K, rfl, -, -, -, -⟩ := D.open; unfold bdu at A; injection A with e2 A; injection A with e3 A; injection A with e4 A; injection A with e5 A; injection A with e6 A; injection A with e7 A; injection A with e8 A; injection A with e9 A; injection A with e10 A; subst e2; subst e3; subst e4; subst e5; subst e6; subst e7; subst e8; subst e9; subst e10; exact ⟨⟨id, PT.mk key Y red mid (VT.mk z Z us (.slice O I.length W) (.slice X K.length N) I K), G⟩, rfl, adv wi, U⟩
theorem ban (K : Nat) (A : List Value) (y : DataW H × List MemPlace) (ab : DataW.trod enc prog w base spare held K 51 A = some y) : ∃ t : QuT, A = aar t ∧ (0 ≤ t.limit ∧ t.limit < 18446744073709551616) ∧ MsRd (fun _ => True) w t.mv t.zw := by
 obtain ⟨I, n, rfl, g⟩ := aau underlying51 ab
 have U : prog.cellsOf 51 = 3 := by kernel_rfl
 have W : prog.cellsOf 22 = 1 := by kernel_rfl
 have c2 : prog.cellsOf 9 = 1 := by kernel_rfl
 have z : prog.cellsOf 49 = 1 := by kernel_rfl
 have Z : prog.cellsOf 60 = 11 := by kernel_rfl
 rw [U] at I
 match A, I with
 | [a0, a1, a2], _ =>
  obtain ⟨J, rfl, _⟩ := abb underlying9 c2 (o := 0) (c := a0) rfl (g 0 _ rfl); obtain ⟨F, rfl, X⟩ := acl underlying22 W (o := 1) (c := a1) rfl (g 1 _ rfl); obtain ⟨Y, h⟩ := g 2 _ rfl; have D : DataW.trod enc prog w base spare held n 49 (([.string J, .int .u64 F, a2].drop 2).take (prog.cellsOf 49)) = some Y := h; rw [z] at D; simp only [List.drop_succ_cons, List.drop_zero, List.take_succ_cons, List.take_zero] at D; obtain ⟨M, O, N, rfl⟩ := abo underlying49 D; obtain ⟨aa, hM, G⟩ := acm (I := abl) (Wf := fun t => (0 ≤ t.id ∧ t.id < 18446744073709551616) ∧ Rd (fun _ => True) w t.pr.app) (m := 11) underlying49 Z (by omega) (fun n A y _ hy => ax3 n A y hy) ⟨_, _, _, rfl⟩ D; exact ⟨⟨J, F, .slice M O N, aa⟩, rfl, adv X, hM, fun _ _ _ => trivial, fun x E => (G x E).2, fun x E => (G x E).1⟩
theorem bao (M : Nat) (D : List Value) (y : DataW H × List MemPlace) (aa : DataW.trod enc prog w base spare held M 62 D = some y) : ∃ t : BrT, D = aa7 t ∧ EnRd (fun _ => True) w t.en := by
 obtain ⟨J, n, rfl, g⟩ := aau underlying62 aa
 have hc : prog.cellsOf 62 = 5 := by kernel_rfl
 have c3 : prog.cellsOf 30 = 3 := by kernel_rfl
 have c4 : prog.cellsOf 31 = 1 := by kernel_rfl
 have c5 : prog.cellsOf 32 = 1 := by kernel_rfl
 have cp : prog.cellsOf 64 = 12 := by kernel_rfl
 have cr : prog.cellsOf 68 = 2 := by kernel_rfl
 rw [hc] at J
 match D, J with
 | [a3, a4, a5, a6, a7], _ =>
  obtain ⟨z0, h0⟩ := g 0 _ rfl; have I : DataW.trod enc prog w base spare held n 30 (([a3, a4, a5, a6, a7].drop 0).take (prog.cellsOf 30)) = some z0 := h0; rw [c3] at I; simp only [List.drop_succ_cons, List.drop_zero, List.take_succ_cons, List.take_zero] at I; obtain ⟨z1, h1⟩ := g 1 _ rfl; have F : DataW.trod enc prog w base spare held n 31 (([a3, a4, a5, a6, a7].drop 3).take (prog.cellsOf 31)) = some z1 := h1; rw [c4] at F; simp only [List.drop_succ_cons, List.drop_zero, List.take_succ_cons, List.take_zero] at F; obtain ⟨z2, h2⟩ := g 2 _ rfl; have E : DataW.trod enc prog w base spare held n 32 (([a3, a4, a5, a6, a7].drop 4).take (prog.cellsOf 32)) = some z2 := h2; rw [c5] at E; simp only [List.drop_succ_cons, List.drop_zero, List.take_succ_cons, List.take_zero] at E; obtain ⟨z, h, xb, A, K⟩ := akn n _ _ I; injection A with e3 A; injection A with e4 A; injection A with e5 A; subst e3; subst e4; subst e5; obtain ⟨O, U, N, rfl⟩ := abo underlying31 F; obtain ⟨P, hP, G⟩ := acm (I := aat) (Wf := fun t => (0 ≤ t.id ∧ t.id < 18446744073709551616) ∧ Rd (fun _ => True) w t.pr.app) (m := 12) underlying31 cp (by omega) (fun n D y _ hy => aqy n D y hy) ⟨_, _, _, rfl⟩ F; obtain ⟨W, Y, X, rfl⟩ := abo underlying32 E; obtain ⟨T, hT, Z⟩ := acm (I := abc) (Wf := fun r => 0 ≤ r.id ∧ r.id < 18446744073709551616) (m := 2) underlying32 cr (by omega) (fun n D y _ hy => aqz n D y hy) ⟨_, _, _, rfl⟩ E; exact ⟨⟨(z, h, xb), .slice O U N, .slice W Y X, P, T⟩, rfl, hP, fun _ _ _ => trivial, fun x A => (G x A).2, hT, fun _ _ _ => trivial, ⟨by show (0 : Int) ≤ 4; omega, by show (4 : Int) < 256; omega, by show (0 : Int) ≤ 0; omega, by show (0 : Int) < _; omega, K.1, K.2, fun p hp => by obtain ⟨x, A, rfl⟩ := jv.1 hp; exact ⟨(G x A).1.1, (G x A).1.2, (G x A).2.wf⟩, Z⟩⟩
theorem bap (G : Nat) (E : List Value) (y : DataW H × List MemPlace) (h : DataW.trod enc prog w base spare held G 90 E = some y) : ∃ t : He, E = adp t ∧ (0 ≤ t.x.1 ∧ t.x.1 < 4294967296) := by
 obtain ⟨F, n, rfl, g⟩ := aau underlying90 h
 have I : prog.cellsOf 90 = 4 := by kernel_rfl
 have X : prog.cellsOf 30 = 3 := by kernel_rfl
 have O : prog.cellsOf 4 = 1 := by kernel_rfl
 rw [I] at F
 match E, F with
 | [a3, a4, a5, a6], _ =>
  obtain ⟨b, rfl⟩ := ahw underlying4 O (o := 3) (c := a6) rfl (g 1 _ rfl); obtain ⟨W, M⟩ := g 0 _ rfl; have D : DataW.trod enc prog w base spare held n 30 (([a3, a4, a5, .bool b].drop 0).take (prog.cellsOf 30)) = some W := M; rw [X] at D; simp only [List.drop_succ_cons, List.drop_zero, List.take_succ_cons, List.take_zero] at D; obtain ⟨K, J, U, A, N⟩ := akn n _ _ D; injection A with e3 A; injection A with e4 A; injection A with e5 A; subst e3; subst e4; subst e5; exact ⟨⟨(K, J, U), b⟩, rfl, N⟩
theorem ax4 (K : Nat) (A : List Value) (y : DataW H × List MemPlace) (ab : DataW.trod enc prog w base spare held K 27 A = some y) : ∃ t : StT, t.arg = .agg A.toArray ∧ StRd (fun _ => True) w t := by
 obtain ⟨J, n, rfl, g⟩ := aau underlying27 ab
 have hc : prog.cellsOf 27 = 4 := by kernel_rfl
 have c1 : prog.cellsOf 22 = 1 := by kernel_rfl
 have c2 : prog.cellsOf 23 = 1 := by kernel_rfl
 have c3 : prog.cellsOf 24 = 1 := by kernel_rfl
 have c4 : prog.cellsOf 25 = 1 := by kernel_rfl
 have cq : prog.cellsOf 51 = 3 := by kernel_rfl
 have cb : prog.cellsOf 62 = 5 := by kernel_rfl
 have ch : prog.cellsOf 90 = 4 := by kernel_rfl
 rw [hc] at J
 match A, J with
 | [a0, a1, a2, a3], _ =>
  obtain ⟨nx, rfl, wn⟩ := acl underlying22 c1 (o := 0) (c := a0) rfl (g 0 _ rfl); obtain ⟨z1, h1⟩ := g 1 _ rfl; have F : DataW.trod enc prog w base spare held n 23 (([.int .u64 nx, a1, a2, a3].drop 1).take (prog.cellsOf 23)) = some z1 := h1; rw [c2] at F; simp only [List.drop_succ_cons, List.drop_zero, List.take_succ_cons, List.take_zero] at F; obtain ⟨z2, h2⟩ := g 2 _ rfl; have E : DataW.trod enc prog w base spare held n 24 (([.int .u64 nx, a1, a2, a3].drop 2).take (prog.cellsOf 24)) = some z2 := h2; rw [c3] at E; simp only [List.drop_succ_cons, List.drop_zero, List.take_succ_cons, List.take_zero] at E; obtain ⟨z3, h3⟩ := g 3 _ rfl; have D : DataW.trod enc prog w base spare held n 25 (([.int .u64 nx, a1, a2, a3].drop 3).take (prog.cellsOf 25)) = some z3 := h3; rw [c4] at D; simp only [List.drop_succ_cons, List.drop_zero, List.take_succ_cons, List.take_zero] at D; obtain ⟨N, O, M, rfl⟩ := abo underlying23 F; obtain ⟨Q, hQ, I⟩ := acm (I := aar) (Wf := fun t => (0 ≤ t.limit ∧ t.limit < 18446744073709551616) ∧ MsRd (fun _ => True) w t.mv t.zw) (m := 3) underlying23 cq (by omega) (fun n A y _ hy => ban n A y hy) ⟨_, _, _, rfl⟩ F; obtain ⟨U, Y, X, rfl⟩ := abo underlying24 E; obtain ⟨B, hB, z⟩ := acm (I := aa7) (Wf := fun t => EnRd (fun _ => True) w t.en) (m := 5) underlying24 cb (by omega) (fun n A y _ hy => bao n A y hy) ⟨_, _, _, rfl⟩ E; obtain ⟨W, Z, h, rfl⟩ := abo underlying25 D; obtain ⟨aa, hK, wK⟩ := acm (I := adp) (Wf := fun t => 0 ≤ t.x.1 ∧ t.x.1 < 4294967296) (m := 4) underlying25 ch (by omega) (fun n A y _ hy => bap n A y hy) ⟨_, _, _, rfl⟩ D; exact ⟨⟨nx, .slice N O M, .slice U Y X, .slice W Z h, Q, B, aa⟩, rfl, hQ, fun _ _ _ => trivial, fun q G => (I q G).2, hB, fun _ _ _ => trivial, z, hK, fun _ _ _ => trivial, adv wn, fun q G => (I q G).1, wK⟩
theorem ar9 {b : Nat} {v : Value} {d : DataW H} {ps : List MemPlace} (D : Value.okWide prog w .any b 27 v) (h : DataW.Trod enc prog w base spare held 27 v d ps) : ∃ t : StT, v = t.arg ∧ StRd (fun _ => True) w t := by
 obtain ⟨A, rfl, hs⟩ := okWide_struct underlying27 D
 obtain ⟨n, F⟩ := h
 obtain ⟨t, e, E⟩ := ax4 n A.toList _ (by simpa [Value.cells] using F)
 exact ⟨t, by rw [e], E⟩
end
section
variable {H : Type} {enc : TypeId × Value → H} {w : World} {base : Nat} {spare : Nat → Bool} {held : Bool}
theorem bgi {b : Nat} {v : Value} {d : DataW H} {ps : List MemPlace} (D : Value.okWide prog w .any b 68 v) (h : DataW.Trod enc prog w base spare held 68 v d ps) : ∃ r : Rf, v = .agg #[.string r.q, .int .u64 r.id] ∧ (0 ≤ r.id ∧ r.id < 18446744073709551616) := by
 obtain ⟨A, rfl, hs⟩ := okWide_struct underlying68 D
 obtain ⟨n, E⟩ := h
 obtain ⟨r, e, hi⟩ := aqz n A.toList _ (by simpa [Value.cells] using E)
 refine ⟨r, ?_, hi⟩
 have : A = (abc r).toArray := by rw [← e]
 rw [this]; rfl
end
end Go.Proofs.YtgnaifhmcllnlaaGreatDoor
