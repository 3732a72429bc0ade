/- Entries: the document's Check. Condition: texts are short enough to be in memory. Written by gen_edC.py. (Texts joined.) -/
import Derived.Test.YtgnaifhmcllnlaaGreatDoorB13
set_option maxRecDepth 100000
set_option maxHeartbeats 12800000
set_option linter.unusedSimpArgs false
set_option linter.unusedVariables false
namespace Go.Proofs.YtgnaifhmcllnlaaGreatDoor
open Go.RowKit Tryz
theorem bfw (w : World) (s : ByteArray) (hm : (s.size : Int) ≤ 9223372036854775807) : Calls Tryz.prog 105 #[.string s] w fun e A => e = .returned (.bool (qn s)) ∧ Below w.heap.size w A := by
 exact bfj
theorem bf2 : ∀ (x y : List UInt8), Op.bytesLess x y = decide (Lib.compareBytes x y < 0)
 | [], [] => by simp [Op.bytesLess, Lib.compareBytes]
 | [], _ :: _ => by simp [Op.bytesLess, Lib.compareBytes]
 | _ :: _, [] => by simp [Op.bytesLess, Lib.compareBytes]
 | a :: l, b :: m => by
  have F := bf2 l m; unfold Op.bytesLess Lib.compareBytes; by_cases A : a < b
  ·simp [A]
  ·by_cases D : b < a
   ·have E : ¬ a = b := fun e => by subst e; exact A D
    simp [A, D, E]
   ·have e : a = b := UInt8.le_antisymm (UInt8.not_lt.1 D) (UInt8.not_lt.1 A)
    simp [A, D, F, e]
theorem bgy (a b : ByteArray) : (!(Op.bytesLess a.toList b.toList)) = decide (0 ≤ abf a b) := by
 rw [bf2]
 unfold abf
 rw [Lib.toList_data, Lib.toList_data]
 by_cases h : Lib.compareBytes a.data.toList b.data.toList < 0
 ·rw [qp h, qg (by omega)]; rfl
 ·rw [qg h, qp (by omega)]; rfl
theorem beq {D E : Type} {c : E → E → Int} {k : D → E} {p : D → Bool} {L : List D} : (L.all p && aia c k L) = true ↔ ∀ j, (h : j < L.length) → p L[j] = true ∧ (0 < j → c (k (L[j - 1]'(by omega))) (k L[j]) < 0) := by
 rw [jj, jt]
 unfold aia
 rw [ahi]
 constructor
 ·rintro ⟨F, H⟩ j A
  refine ⟨F _ (qy A), fun I => ?_⟩; obtain ⟨i, rfl⟩ : ∃ i, j = i + 1 := ⟨j - 1, by omega⟩
  exact qt (H i A)
 ·intro h
  refine ⟨fun x G => ?_, fun i hi => qp ((h (i + 1) hi).2 (by omega))⟩; obtain ⟨j, A, rfl⟩ := List.getElem_of_mem G; exact (h j A).1
def msP (n : Int) (m : Ms) : Bool := decide (1 ≤ m.id) && decide (m.id < n) && m.okB
theorem bg4 {n : Int} {q : Qu} (A : qn q.name = true) (D : ah2 q.limit = true) : q.okB n = (q.zw.all (msP n) && aia ad8 Ms.id q.zw) := by
 unfold Qu.okB; rw [A, D]; rfl
theorem bgl {n : Int} {q : Qu} (h : qn q.name = false ∨ ah2 q.limit = false) : q.okB n = false := by
 unfold Qu.okB
 rcases h with h | h <;> rw [h] <;> simp
theorem bfx {n : Int} {L : List Qu} {j : Nat} (D : j < L.length) (h : L[j].okB n = false ∨ (∃ A : 0 < j, 0 ≤ abf (L[j - 1]'(by omega)).name L[j].name)) : qsB n L = false := by
 cases hq : qsB n L with
 | false => rfl
 | true =>
  have := (beq.1 (show (L.all (Qu.okB n) && aia abf Qu.name L) = true from hq)) j D; rcases h with h | ⟨A, h⟩
  ·rw [this.1] at h; cases h
  ·exact jp (this.2 A) (by omega)
theorem bgm {n : Int} {q : Qu} {j : Nat} (D : j < q.zw.length) (h : msP n q.zw[j] = false ∨ (∃ A : 0 < j, 0 ≤ ad8 (q.zw[j - 1]'(by omega)).id q.zw[j].id)) : q.okB n = false := by
 cases h1 : qn q.name with
 | false => exact bgl (.inl h1)
 | true =>
  cases h2 : ah2 q.limit with
  | false => exact bgl (.inr h2)
  | true =>
   rw [bg4 h1 h2]
   cases hq : (q.zw.all (msP n) && aia ad8 Ms.id q.zw) with
   | false => rfl
   | true =>
    have := (beq.1 hq) j D; rcases h with h | ⟨A, h⟩
    ·rw [this.1] at h; cases h
    ·exact jp (this.2 A) (by omega)
theorem bg5 (pr : Pr) (A : ByteArray) : Pt.mayB ⟨⟨#[113]⟩, 0, pr, A⟩ = (Ms.mk 0 pr A).okB := by
 unfold Pt.mayB Ms.okB
 simp only [show qn ⟨#[113]⟩ = true by decide]
 simp [Bool.and_comm]
theorem bfd {P : Prop} (h : P := by
 refine tkH 27 zg ?_
 refine tkF 28 zg ?_ (fun v hSw => have q := Q0.pure hSw; And.intro (q.at 1 rfl) (And.intro (q.at 2 rfl) (And.intro (q.at 3 rfl) (And.intro (q.at 4 rfl) (And.intro (q.at 5 rfl) (And.intro (q.at 6 rfl) (And.intro (q.at 7 rfl) (And.intro (q.at 8 rfl) (q.at 9 rfl)))))))))
 refine tkH 29 zg ?_
 refine tkF 30 zg ?_ (fun v hSw => (Q0.pure hSw).at 10 rfl)
 refine tkH 31 zg ?_
 refine aai 32 rfl (fun Kq hKq => ?_)
 go_simp
 (go_at_call 107; (with_reducible refine (hmp.out _ (hAl2h.out.trans (hb.mono hAl2h.out.size))).mono ?_); rintro e x3 ⟨rfl, hB3⟩)
 have hb := hb.trans (hB3.mono hb.size)
 refine hKq.out _ _ hb (fun zg => ?_)
 clear hKq Kq
 (try simp only [Act.put, lsT, lsZ, lsS])
 refine tkH 33 zg ?_
 refine tkH 34 zg ?_
 refine ah9 ?_
 cases mb
 ·skip
  have hfin := qq (show R = false by rw [← hReh.out]; exact bfx hkS (.inl (by rw [hSkh.out]; exact bgm (q := ⟨name, lim, zw.map MsT.m⟩) (j := j) (by show j < (zw.map MsT.m).length; rw [hMeh.out]; exact hjM) (.inl (by simp only [hMeh.out]; rw [hMjh.out]; unfold msP; rw [show Ms.okB ⟨id, _, body⟩ = false from hmbh.out]; simp))))); go_wp2; go_meet; exact ⟨true, rfl, hb, fun _ => hfin.out, fun h => by cases h⟩
 have hmsp : msP nx M[j] = true := by rw [hMjh.out]; unfold msP; rw [show Ms.okB ⟨id, _, body⟩ = true from hmbh.out, qp (show (1 : Int) ≤ id from by have := jq hb3h.out; omega), qp (show id < nx from by have := jq hb4h.out; omega)]; rfl
 go_wp2
 go_meet
 exact ⟨false, rfl, hb, (fun h => by cases h), fun _ => ⟨hmsp, hord⟩⟩) : P := h
theorem at8 {P : Prop} (h : P := by
 go_wp2
 go_meet
 exact ⟨true, rfl, hb, fun _ => hfin.out, fun h => by cases h⟩) : P := h
theorem bfy (w : World) (t : StT) (P : Nat → Prop) (hR : StRd P w t) (hS : SmSt t) : Calls Tryz.prog 54 #[t.arg] w fun e w' => e = .returned (.bool (qsB t.s.next t.s.qs)) ∧ Below w.heap.size w w' := by
 obtain ⟨nx, qa, qc, ba, bc, ha, hc, qs, zk, hs, rfl, -, -, -⟩ := hR.open
 rw [StT.arg_mk]
 have hB1 := (qz w.heap.size w).alloc (qj _) (.cells #[.int .u64 nx, .slice qa qs.length qc, .slice ba zk.length bc, .slice ha hs.length hc] 27)
 have A1 := Blk.new w [.int .u64 nx, .slice qa qs.length qc, .slice ba zk.length bc, .slice ha hs.length hc] 27
 have cf := qq (hR.pure hB1)
 have cw := qq hS
 have hL : qs.length ≤ 12 := hS.q
 have dd : (qs.length : Int) ≤ 12 := by omega
 obtain ⟨S, ao⟩ : ∃ S : List Qu, qs.map QuT.q = S := ⟨_, rfl⟩
 obtain ⟨R, av⟩ := qx (qsB nx S)
 have bk : qsB (StT.mk nx (.slice qa qs.length qc) (.slice ba zk.length bc) (.slice ha hs.length hc) qs zk hs).s.next (StT.mk nx (.slice qa qs.length qc) (.slice ba zk.length bc) (.slice ha hs.length hc) qs zk hs).s.qs = R := by rw [← av, ← ao]; rfl
 rw [bk]
 have cc := qq (show S.length = qs.length by rw [← ao, jf])
 have bt := qq ao; have hReh := qq av
 clear bk hR hS ao av
 go_enter Tryz.func54, Tryz.ntmps54
 go_upto_region 1 with fail
 obtain ⟨u, hu⟩ := zj (w.alloc (.cells #[.int .u64 nx, .slice qa qs.length qc, .slice ba zk.length bc, .slice ha hs.length hc] 27))
 rw [← hu] at hB1 A1 cf ⊢
 clear hu
 go_wp2
 go_loopw [3, 4, 5, 6] (fun s3 s4 s5 s6 wr => ∃ k : Nat, k ≤ qs.length ∧ s3 = .int .i64 k ∧ Hid (∀ j, (h : j < S.length) → j < k → S[j].okB nx = true ∧ (0 < j → abf (S[j - 1]'(by omega)).name S[j].name < 0)) ∧ Below u.heap.size u wr) (fun s3 s4 s5 s6 _ => qs.length - (intOf s3).toNat)
 case atStart => exact ⟨0, Nat.zero_le _, rfl, qq (fun j h h' => jp h' (by omega)), qz _ _⟩
 case round =>
  obtain ⟨k, hk, rfl, bn, hB⟩ := hrel; have A2 := A1.pure hB; have b1 := A2.at 1 rfl; by_cases X : k < qs.length
  rotate_left 1
  ·obtain rfl : k = qs.length := by omega
   have hfin := qq (show R = true by rw [← hReh.out]; exact beq.2 (fun j hj => bn.out j hj (by rw [← cc.out]; exact hj))); exact bej
  have dc : (k : Int) < (qs.length : Int) := by omega
  have dg : (0 : Int) ≤ (k : Int) := by omega
  have am := cf.out.pure hB; have ag : Slc aar 3 wr (.slice qa qs.length qc) qs := am.q; obtain ⟨g, off, rfl⟩ := ag.addrB X; obtain ⟨name, lim, ma, mc, zw, Z, da, c0, c1, c2⟩ := aep ag X (am.m _ (qy X)); have hM := am.m _ (qy X); have an := cw.out.qs _ (qy X); rw [Z] at hM an; have da : zw.length ≤ 40 := an.l; have c4 : (name.size : Int) ≤ 9223372036854775807 := by have : name.size ≤ 200 := an.n; omega
  have hM : MsRd P wr (.slice ma zw.length mc) zw := hM; have hkS : k < S.length := by rw [cc.out]; exact X
  have cl : S[k] = ⟨name, lim, zw.map MsT.m⟩ := by
   have h : S[k]? = some ⟨name, lim, zw.map MsT.m⟩ := by rw [← bt.out, List.getElem?_map, List.getElem?_eq_getElem X, Z]; rfl
   exact (List.getElem_eq_iff _).2 h
  have ck : 0 < k → ∃ (z : ByteArray), (S[k - 1]'(by omega)).name = z ∧ ∀ v, Below wr.heap.size wr v → v.cell? ⟨g, off + (k - 1) * 3, none⟩ = some (.string z) := fun E => by
   have W : k - 1 < qs.length := by omega
   have h : S[k - 1]? = some qs[k - 1].q := by rw [← bt.out, List.getElem?_map, List.getElem?_eq_getElem W]; rfl
   have e : S[k - 1]'(by omega) = qs[k - 1].q := (List.getElem_eq_iff _).2 h; exact ⟨qs[k - 1].name, by rw [e]; rfl, fun v G => (ag.pure G).get (k - 1) W 0 _ rfl⟩
  have cr := qq ck; have hSkh := qq cl; have c8 := qq hM; clear ck cl hM am ag Z an; obtain ⟨b1, ax⟩ := qx (qn name); obtain ⟨b2, a1⟩ := qx (ah2 lim); obtain ⟨c0, b0⟩ := qx (decide (0 < k)); have ca := qq (fun (v : World) => bfw v name c4); have cj := qq (fun (v : World) => bec v lim); rw [ax] at ca; rw [a1] at cj; have aq := qq ax; have au := qq a1; have bi := qq b0; clear ax a1; go_upto_region 5 with fail; have ae := (qz wr.heap.size wr).alloc (qj _) (.cells #[.string name, .int .u64 lim, .slice ma zw.length mc] 51); have N0 := Blk.new wr [.string name, .int .u64 lim, .slice ma zw.length mc] 51; have A3 := A2.pure ae; have az := hB.trans (ae.mono hB.size); obtain ⟨nb, ch⟩ := zj wr.heap.size; obtain ⟨x, bu⟩ := zj (wr.alloc (.cells #[.string name, .int .u64 lim, .slice ma zw.length mc] 51)); rw [← bu] at N0 A3 az ae ⊢; rw [← ch] at N0 ⊢; have af := qq ae; clear bu ch ae; go_cut [44] from 19 to 43 (fun cy wx => ∃ F : Bool, cy = .bool F ∧ Below x.heap.size x wx ∧ (F = true → R = false) ∧ (F = false → qn name = true ∧ ah2 lim = true ∧ (∀ E : 0 < k, abf (S[k - 1]'(by omega)).name S[k].name < 0)))
  case first =>
   have hb := aan (qz x.heap.size x); refine aal (fun v => Below x.heap.size x v) hb (fun zg => ?_); refine tkH 0 zg ?_; refine tkF 1 zg ?_ (fun v hSw => (N0.pure hSw).at 0 rfl); refine aai 2 rfl (fun Kq hKq => ?_); go_simp
   (go_at_call 105; (with_reducible refine (ca.out _).mono ?_); rintro e x2 ⟨rfl, c3⟩)
   have hb := hb.trans (c3.mono hb.size); refine hKq.out _ _ hb (fun zg => ?_); clear hKq Kq; (try simp only [Act.put, lsT, lsZ, lsS]); refine tkH 3 zg ?_; refine tkH 4 zg ?_; cases b1
   ·skip
    refine agu 5 _ rfl rfl zg ?_; (try simp only [Act.put, lsT, lsZ, lsS]); refine agu 6 _ rfl rfl zg ?_; (try simp only [Act.put, lsT, lsZ, lsS]); refine agu 7 _ rfl rfl zg ?_; (try simp only [Act.put, lsT, lsZ, lsS]); refine agu 8 _ rfl rfl zg ?_; (try simp only [Act.put, lsT, lsZ, lsS]); refine tkH 9 zg ?_; refine tkH 10 zg ?_; refine agu 11 _ rfl rfl zg ?_; (try simp only [Act.put, lsT, lsZ, lsS]); refine agu 12 _ rfl rfl zg ?_; (try simp only [Act.put, lsT, lsZ, lsS]); refine agu 13 _ rfl rfl zg ?_; (try simp only [Act.put, lsT, lsZ, lsS]); refine agu 14 _ rfl rfl zg ?_; (try simp only [Act.put, lsT, lsZ, lsS]); refine agu 15 _ rfl rfl zg ?_; (try simp only [Act.put, lsT, lsZ, lsS]); refine agu 16 _ rfl rfl zg ?_; (try simp only [Act.put, lsT, lsZ, lsS]); refine agu 17 _ rfl rfl zg ?_; (try simp only [Act.put, lsT, lsZ, lsS]); refine agu 18 _ rfl rfl zg ?_; (try simp only [Act.put, lsT, lsZ, lsS]); refine agu 19 _ rfl rfl zg ?_; (try simp only [Act.put, lsT, lsZ, lsS]); refine agu 20 _ rfl rfl zg ?_; (try simp only [Act.put, lsT, lsZ, lsS]); refine agu 21 _ rfl rfl zg ?_; (try simp only [Act.put, lsT, lsZ, lsS]); refine agu 22 _ rfl rfl zg ?_; (try simp only [Act.put, lsT, lsZ, lsS]); refine agu 23 _ rfl rfl zg ?_; (try simp only [Act.put, lsT, lsZ, lsS]); refine agu 24 _ rfl rfl zg ?_; (try simp only [Act.put, lsT, lsZ, lsS]); refine tkH 25 zg ?_; refine ah9 ?_; have hfin := qq (show R = false by rw [← hReh.out]; exact bfx hkS (.inl (by rw [hSkh.out]; exact bgl (.inl aq.out)))); exact at8
   refine tkH 5 zg ?_; refine tkF 6 zg ?_ (fun v hSw => (N0.pure hSw).at 1 rfl); refine aai 7 rfl (fun Kq hKq => ?_); go_simp
   (go_at_call 106; (with_reducible refine (cj.out _).mono ?_); rintro e _ ⟨rfl, rfl⟩)
   refine hKq.out _ _ hb (fun zg => ?_); clear hKq Kq; (try simp only [Act.put, lsT, lsZ, lsS]); refine tkH 8 zg ?_; refine tkH 9 zg ?_; refine tkH 10 zg ?_; cases b2
   ·skip
    refine agu 11 _ rfl rfl zg ?_; (try simp only [Act.put, lsT, lsZ, lsS]); refine agu 12 _ rfl rfl zg ?_; (try simp only [Act.put, lsT, lsZ, lsS]); refine agu 13 _ rfl rfl zg ?_; (try simp only [Act.put, lsT, lsZ, lsS]); refine agu 14 _ rfl rfl zg ?_; (try simp only [Act.put, lsT, lsZ, lsS]); refine agu 15 _ rfl rfl zg ?_; (try simp only [Act.put, lsT, lsZ, lsS]); refine agu 16 _ rfl rfl zg ?_; (try simp only [Act.put, lsT, lsZ, lsS]); refine agu 17 _ rfl rfl zg ?_; (try simp only [Act.put, lsT, lsZ, lsS]); refine agu 18 _ rfl rfl zg ?_; (try simp only [Act.put, lsT, lsZ, lsS]); refine agu 19 _ rfl rfl zg ?_; (try simp only [Act.put, lsT, lsZ, lsS]); refine agu 20 _ rfl rfl zg ?_; (try simp only [Act.put, lsT, lsZ, lsS]); refine agu 21 _ rfl rfl zg ?_; (try simp only [Act.put, lsT, lsZ, lsS]); refine agu 22 _ rfl rfl zg ?_; (try simp only [Act.put, lsT, lsZ, lsS]); refine agu 23 _ rfl rfl zg ?_; (try simp only [Act.put, lsT, lsZ, lsS]); refine agu 24 _ rfl rfl zg ?_; (try simp only [Act.put, lsT, lsZ, lsS]); refine tkH 25 zg ?_; refine ah9 ?_; have hfin := qq (show R = false by rw [← hReh.out]; exact bfx hkS (.inl (by rw [hSkh.out]; exact bgl (.inr au.out)))); exact at8
   refine tkH 11 zg ?_; refine tkH 12 zg ?_; cases c0
   ·skip
    refine tkH 13 zg ?_; refine agu 14 _ rfl rfl zg ?_; (try simp only [Act.put, lsT, lsZ, lsS]); refine agu 15 _ rfl rfl zg ?_; (try simp only [Act.put, lsT, lsZ, lsS]); refine agu 16 _ rfl rfl zg ?_; (try simp only [Act.put, lsT, lsZ, lsS]); refine agu 17 _ rfl rfl zg ?_; (try simp only [Act.put, lsT, lsZ, lsS]); refine agu 18 _ rfl rfl zg ?_; (try simp only [Act.put, lsT, lsZ, lsS]); refine agu 19 _ rfl rfl zg ?_; (try simp only [Act.put, lsT, lsZ, lsS]); refine agu 20 _ rfl rfl zg ?_; (try simp only [Act.put, lsT, lsZ, lsS]); refine agu 21 _ rfl rfl zg ?_; (try simp only [Act.put, lsT, lsZ, lsS]); refine agu 22 _ rfl rfl zg ?_; (try simp only [Act.put, lsT, lsZ, lsS]); refine agu 23 _ rfl rfl zg ?_; (try simp only [Act.put, lsT, lsZ, lsS]); refine tkH 24 zg ?_; refine tkH 25 zg ?_; refine ah9 ?_; have hord : 0 < k → abf (S[k - 1]'(by omega)).name S[k].name < 0 := fun h => jp h (jq bi.out)
    go_wp2; go_meet; exact ⟨false, rfl, hb, (fun h => by cases h), fun _ => ⟨aq.out, au.out, hord⟩⟩
   have E : 0 < k := qt bi.out; obtain ⟨z, cg, b6⟩ := cr.out E; have cp := qq (show ∀ v, Below x.heap.size x v → v.cell? ⟨g, off + (k - 1) * 3, none⟩ = some (.string z) from fun v G => b6 v (af.out.trans (G.mono af.out.size))); obtain ⟨bl, ci⟩ := qx (Op.bytesLess z.toList name.toList); have bm := qq (show decide (0 ≤ abf z name) = !bl by rw [← bgy, ci]); have bp := qq cg; have c7 : IntKind.i64.wrap ((k : Int) - 1) = (k : Int) - 1 := by rw [IntKind.wrap_i64]; omega
   have cx : ((k : Int) - 1).toNat = k - 1 := by omega
   have W : (0 : Int) ≤ (k : Int) - 1 := by omega
   have c9 : (1 : Int) ≤ (k : Int) := by omega
   have ct : (k : Int) - 1 < (qs.length : Int) := by omega
   clear cg b6; refine tkH 13 zg ?_; refine tkH 14 zg ?_; refine tkF 15 zg ?_ (fun v hSw => (A3.pure hSw).at 1 rfl); refine tkH 16 zg ?_; refine tkH 17 zg ?_; refine tkH 18 zg ?_; refine tkH 19 zg ?_; refine tkH 20 zg ?_ (hy := fun v hSw => by (try dsimp only at hSw); have q := cp.out _ hSw; clear hSw; go_simp; (try with_reducible rfl)); refine tkH 21 zg ?_; refine tkF 22 zg ?_ (fun v hSw => (N0.pure hSw).at 0 rfl); refine tkH 23 zg ?_; refine tkH 24 zg ?_; refine tkH 25 zg ?_; refine ah9 ?_; clear ci; cases bl
   rotate_left 1
   ·skip
    have hord : ∀ E : 0 < k, abf (S[k - 1]'(by omega)).name S[k].name < 0 := fun h => by have := jq bm.out; rw [bp.out, hSkh.out]; show abf z name < 0; omega
    go_wp2; go_meet; exact ⟨false, rfl, hb, (fun h => by cases h), fun _ => ⟨aq.out, au.out, hord⟩⟩
   have hfin := qq (show R = false by rw [← hReh.out]; exact bfx hkS (.inr ⟨E, by rw [bp.out, hSkh.out]; exact qt bm.out⟩)); exact at8
  case rest =>
  obtain ⟨F, rfl, ad, br, bg⟩ := hcut; have ac := az.trans (ad.mono az.size); cases F
  rotate_left 1
  ·have hfin := qq (br rfl)
   go_wp2; go_ret; exact ⟨by first | rfl | (rw [hfin.out]; rfl), hB1.trans (ac.mono hB1.size)⟩
  have bb := qq (bg rfl); have N4 := N0.pure ad; have A4 := A3.pure ad; have df : (zw.length : Int) ≤ 40 := by omega
  obtain ⟨M, aw⟩ : ∃ M : List Ms, zw.map MsT.m = M := ⟨_, rfl⟩
  have b9 := qq (show M.length = zw.length by rw [← aw, jf]); have hMeh := qq aw; have n2 := N4.at 2 rfl; clear br bg aw b0; go_wp2; clear n2; go_loopw [5, 6] (fun s5 s6 wr => ∃ j : Nat, j ≤ zw.length ∧ s5 = .int .i64 j ∧ Hid (∀ i, (h : i < M.length) → i < j → msP nx M[i] = true ∧ (0 < i → ad8 (M[i - 1]'(by omega)).id M[i].id < 0)) ∧ Below wc.heap.size wc wr) (fun s5 s6 _ => zw.length - (intOf s5).toNat)
  case atStart => exact ⟨0, Nat.zero_le _, rfl, qq (fun j h h' => jp h' (by omega)), qz _ _⟩
  case round =>
   obtain ⟨j, hj, rfl, bf, hC⟩ := hrel; have N5 := N4.pure hC; have A5 := A4.pure hC; have n2 := N5.at 2 rfl; by_cases ab : j < zw.length
   rotate_left 1
   ·obtain rfl : j = zw.length := by omega
    have cs := qq (show S[k].okB nx = true by
     rw [hSkh.out, bg4 bb.out.1 bb.out.2.1]; show (List.all (zw.map MsT.m) _ && _) = true
     rw [hMeh.out]
     exact beq.2 (fun i hi => bf.out i hi (by rw [← b9.out]; exact hi)))
    have cn := qq (show ∀ j, (h : j < S.length) → j < k + 1 → S[j].okB nx = true ∧ (0 < j → abf (S[j - 1]'(by omega)).name S[j].name < 0) from fun j h hj => by
     rcases Nat.lt_or_ge j k with q | q
     ·exact bn.out j h q
     ·obtain rfl : j = k := by omega
      exact ⟨cs.out, bb.out.2.2⟩)
    go_wp2; go_roundw
    case rel => exact ⟨k + 1, by omega, by go_num, cn, ac.trans (hC.mono ac.size)⟩
    case measure => simp [intOf]; omega
   have db : (j : Int) < (zw.length : Int) := by omega
   have cv := af.out.trans ((ad.trans (hC.mono ad.size)).mono af.out.size); have ah := c8.out.pure cv; have ak : Slc abl 11 wr (.slice ma zw.length mc) zw := ah.s; obtain ⟨gm, om, rfl⟩ := ak.addrB ab; obtain ⟨id, key, J, red, mid, O, U, us, K, N, H, I, A, D, body, Z, d0, d1, d2, d3, d4, d5, d6, d7, d8, d9, de⟩ := aga ak ab (ah.r _ (qy ab)); have hr := ah.r _ (qy ab); rw [Z] at hr; have hjM : j < M.length := by rw [b9.out]; exact ab
   have b7 : M[j] = ⟨id, (PT.mk key J red mid (VT.mk O U us (.slice K A.length N) (.slice H D.length I) A D)).p, body⟩ := by
    have h : M[j]? = some ⟨id, (PT.mk key J red mid (VT.mk O U us (.slice K A.length N) (.slice H D.length I) A D)).p, body⟩ := by rw [← hMeh.out, List.getElem?_map, List.getElem?_eq_getElem ab, Z]; rfl
    exact (List.getElem_eq_iff _).2 h
   have hMjh := qq b7
   have bw : 0 < j → ∃ (Y : Int), (M[j - 1]'(by omega)).id = Y ∧ ∀ v, Below wr.heap.size wr v → v.cell? ⟨gm, om + (j - 1) * 11, none⟩ = some (.int .u64 Y) := fun E => by
    have W : j - 1 < zw.length := by omega
    have h : M[j - 1]? = some zw[j - 1].m := by rw [← hMeh.out, List.getElem?_map, List.getElem?_eq_getElem W]; rfl
    have e : M[j - 1]'(by omega) = zw[j - 1].m := (List.getElem_eq_iff _).2 h; exact ⟨zw[j - 1].id, by rw [e]; rfl, fun v G => (ak.pure G).get (j - 1) W 0 _ rfl⟩
   have cq := qq bw; obtain ⟨mb, a0⟩ := qx ((Ms.mk 0 (PT.mk key J red mid (VT.mk O U us (.slice K A.length N) (.slice H D.length I) A D)).p body).okB); have hmp := qq (fun (v : World) (G : Below wr.heap.size wr v) => bep (PtT.mk ⟨#[113]⟩ 0 (PT.mk key J red mid (VT.mk O U us (.slice K A.length N) (.slice H D.length I) A D)) body) P v (hr.pure G) (show ((⟨#[113]⟩ : ByteArray).size : Int) < 4611686018427387904 by decide)); simp only [PtT.arg_mk, show (PtT.mk ⟨#[113]⟩ 0 (PT.mk key J red mid (VT.mk O U us (.slice K A.length N) (.slice H D.length I) A D)) body).p.mayB = mb by rw [← a0]; exact bg5 _ _] at hmp; have hmbh := qq a0; clear ah ak Z hr b7 bw a0; obtain ⟨b3, ai⟩ := qx (decide (id < 1)); obtain ⟨b4, al⟩ := qx (decide (nx ≤ id)); obtain ⟨c5, aj⟩ := qx (decide (0 < j)); have hb3h := qq ai; have hb4h := qq al; have ar := qq aj; have dh : (0 : Int) ≤ (j : Int) := by omega
   go_upto_region 11 with fail; have aa := (qz wr.heap.size wr).alloc (qj _) (.cells #[.int .u64 id, .string key, .bool J, .bool red, .string mid, .int .u8 O, .int .u64 U, .string us, .slice K A.length N, .slice H D.length I, .string body] 60); have Q0 := Blk.new wr [.int .u64 id, .string key, .bool J, .bool red, .string mid, .int .u8 O, .int .u64 U, .string us, .slice K A.length N, .slice H D.length I, .string body] 60; have N6 := N5.pure aa; have A6 := A5.pure aa; obtain ⟨mn, cb⟩ := zj wr.heap.size; obtain ⟨y, cd⟩ := zj (wr.alloc (.cells #[.int .u64 id, .string key, .bool J, .bool red, .string mid, .int .u8 O, .int .u64 U, .string us, .slice K A.length N, .slice H D.length I, .string body] 60)); rw [← cd] at Q0 N6 A6 aa ⊢; rw [← cb] at Q0 ⊢; have hAl2h := qq aa; have bx := hC.trans (aa.mono hC.size); clear cd cb aa ai al aj; go_cut [91] from 57 to 90 (fun cu wz => ∃ F : Bool, cu = .bool F ∧ Below y.heap.size y wz ∧ (F = true → R = false) ∧ (F = false → msP nx M[j] = true ∧ (∀ E : 0 < j, ad8 (M[j - 1]'(by omega)).id M[j].id < 0)))
   case first =>
    have hb := aan (qz y.heap.size y); refine aal (fun v => Below y.heap.size y v) hb (fun zg => ?_); have ai := hb3h.out; refine tkH 0 zg ?_; refine tkF 1 zg ?_ (fun v hSw => (Q0.pure hSw).at 0 rfl); refine tkH 2 zg ?_; refine tkH 3 zg ?_; clear ai; cases b3
    rotate_left 1
    ·skip
     refine agu 4 _ rfl rfl zg ?_; (try simp only [Act.put, lsT, lsZ, lsS]); refine agu 5 _ rfl rfl zg ?_; (try simp only [Act.put, lsT, lsZ, lsS]); refine agu 6 _ rfl rfl zg ?_; (try simp only [Act.put, lsT, lsZ, lsS]); refine agu 7 _ rfl rfl zg ?_; (try simp only [Act.put, lsT, lsZ, lsS]); refine agu 8 _ rfl rfl zg ?_; (try simp only [Act.put, lsT, lsZ, lsS]); refine tkH 9 zg ?_; refine tkH 10 zg ?_; refine agu 11 _ rfl rfl zg ?_; (try simp only [Act.put, lsT, lsZ, lsS]); refine agu 12 _ rfl rfl zg ?_; (try simp only [Act.put, lsT, lsZ, lsS]); refine agu 13 _ rfl rfl zg ?_; (try simp only [Act.put, lsT, lsZ, lsS]); refine agu 14 _ rfl rfl zg ?_; (try simp only [Act.put, lsT, lsZ, lsS]); refine agu 15 _ rfl rfl zg ?_; (try simp only [Act.put, lsT, lsZ, lsS]); refine agu 16 _ rfl rfl zg ?_; (try simp only [Act.put, lsT, lsZ, lsS]); refine agu 17 _ rfl rfl zg ?_; (try simp only [Act.put, lsT, lsZ, lsS]); refine agu 18 _ rfl rfl zg ?_; (try simp only [Act.put, lsT, lsZ, lsS]); refine agu 19 _ rfl rfl zg ?_; (try simp only [Act.put, lsT, lsZ, lsS]); refine agu 20 _ rfl rfl zg ?_; (try simp only [Act.put, lsT, lsZ, lsS]); refine agu 21 _ rfl rfl zg ?_; (try simp only [Act.put, lsT, lsZ, lsS]); refine agu 22 _ rfl rfl zg ?_; (try simp only [Act.put, lsT, lsZ, lsS]); refine agu 23 _ rfl rfl zg ?_; (try simp only [Act.put, lsT, lsZ, lsS]); refine agu 24 _ rfl rfl zg ?_; (try simp only [Act.put, lsT, lsZ, lsS]); refine tkH 25 zg ?_; refine tkH 26 zg ?_; refine agu 27 _ rfl rfl zg ?_; (try simp only [Act.put, lsT, lsZ, lsS]); refine agu 28 _ rfl rfl zg ?_; (try simp only [Act.put, lsT, lsZ, lsS]); refine agu 29 _ rfl rfl zg ?_; (try simp only [Act.put, lsT, lsZ, lsS]); refine agu 30 _ rfl rfl zg ?_; (try simp only [Act.put, lsT, lsZ, lsS]); refine agu 31 _ rfl rfl zg ?_; (try simp only [Act.put, lsT, lsZ, lsS]); refine agu 32 _ rfl rfl zg ?_; (try simp only [Act.put, lsT, lsZ, lsS]); refine agu 33 _ rfl rfl zg ?_; (try simp only [Act.put, lsT, lsZ, lsS]); refine tkH 34 zg ?_; refine ah9 ?_; have hfin := qq (show R = false by rw [← hReh.out]; exact bfx hkS (.inl (by rw [hSkh.out]; exact bgm (q := ⟨name, lim, zw.map MsT.m⟩) (j := j) (by show j < (zw.map MsT.m).length; rw [hMeh.out]; exact hjM) (.inl (by simp only [hMeh.out]; rw [hMjh.out]; unfold msP; rw [qg (show ¬ (1 : Int) ≤ id from by have := qt hb3h.out; omega)]; rfl))))); exact at8
    have al := hb4h.out; refine tkH 4 zg ?_; refine tkF 5 zg ?_ (fun v hSw => (Q0.pure hSw).at 0 rfl); refine tkH 6 zg ?_; refine tkF 7 zg ?_ (fun v hSw => (A6.pure hSw).at 0 rfl); refine tkH 8 zg ?_; refine tkH 9 zg ?_; refine tkH 10 zg ?_; clear al; cases b4
    rotate_left 1
    ·skip
     refine agu 11 _ rfl rfl zg ?_; (try simp only [Act.put, lsT, lsZ, lsS]); refine agu 12 _ rfl rfl zg ?_; (try simp only [Act.put, lsT, lsZ, lsS]); refine agu 13 _ rfl rfl zg ?_; (try simp only [Act.put, lsT, lsZ, lsS]); refine agu 14 _ rfl rfl zg ?_; (try simp only [Act.put, lsT, lsZ, lsS]); refine agu 15 _ rfl rfl zg ?_; (try simp only [Act.put, lsT, lsZ, lsS]); refine agu 16 _ rfl rfl zg ?_; (try simp only [Act.put, lsT, lsZ, lsS]); refine agu 17 _ rfl rfl zg ?_; (try simp only [Act.put, lsT, lsZ, lsS]); refine agu 18 _ rfl rfl zg ?_; (try simp only [Act.put, lsT, lsZ, lsS]); refine agu 19 _ rfl rfl zg ?_; (try simp only [Act.put, lsT, lsZ, lsS]); refine agu 20 _ rfl rfl zg ?_; (try simp only [Act.put, lsT, lsZ, lsS]); refine agu 21 _ rfl rfl zg ?_; (try simp only [Act.put, lsT, lsZ, lsS]); refine agu 22 _ rfl rfl zg ?_; (try simp only [Act.put, lsT, lsZ, lsS]); refine agu 23 _ rfl rfl zg ?_; (try simp only [Act.put, lsT, lsZ, lsS]); refine agu 24 _ rfl rfl zg ?_; (try simp only [Act.put, lsT, lsZ, lsS]); refine tkH 25 zg ?_; refine tkH 26 zg ?_; refine agu 27 _ rfl rfl zg ?_; (try simp only [Act.put, lsT, lsZ, lsS]); refine agu 28 _ rfl rfl zg ?_; (try simp only [Act.put, lsT, lsZ, lsS]); refine agu 29 _ rfl rfl zg ?_; (try simp only [Act.put, lsT, lsZ, lsS]); refine agu 30 _ rfl rfl zg ?_; (try simp only [Act.put, lsT, lsZ, lsS]); refine agu 31 _ rfl rfl zg ?_; (try simp only [Act.put, lsT, lsZ, lsS]); refine agu 32 _ rfl rfl zg ?_; (try simp only [Act.put, lsT, lsZ, lsS]); refine agu 33 _ rfl rfl zg ?_; (try simp only [Act.put, lsT, lsZ, lsS]); refine tkH 34 zg ?_; refine ah9 ?_; have hfin := qq (show R = false by rw [← hReh.out]; exact bfx hkS (.inl (by rw [hSkh.out]; exact bgm (q := ⟨name, lim, zw.map MsT.m⟩) (j := j) (by show j < (zw.map MsT.m).length; rw [hMeh.out]; exact hjM) (.inl (by simp only [hMeh.out]; rw [hMjh.out]; unfold msP; rw [qg (show ¬ id < nx from by have := qt hb4h.out; omega)]; simp))))); exact at8
    have aj := ar.out; refine tkH 11 zg ?_; refine tkH 12 zg ?_; refine tkH 13 zg ?_; clear aj; cases c5
    ·skip
     refine agu 14 _ rfl rfl zg ?_; (try simp only [Act.put, lsT, lsZ, lsS]); refine agu 15 _ rfl rfl zg ?_; (try simp only [Act.put, lsT, lsZ, lsS]); refine agu 16 _ rfl rfl zg ?_; (try simp only [Act.put, lsT, lsZ, lsS]); refine agu 17 _ rfl rfl zg ?_; (try simp only [Act.put, lsT, lsZ, lsS]); refine agu 18 _ rfl rfl zg ?_; (try simp only [Act.put, lsT, lsZ, lsS]); refine agu 19 _ rfl rfl zg ?_; (try simp only [Act.put, lsT, lsZ, lsS]); refine agu 20 _ rfl rfl zg ?_; (try simp only [Act.put, lsT, lsZ, lsS]); refine agu 21 _ rfl rfl zg ?_; (try simp only [Act.put, lsT, lsZ, lsS]); refine agu 22 _ rfl rfl zg ?_; (try simp only [Act.put, lsT, lsZ, lsS]); refine agu 23 _ rfl rfl zg ?_; (try simp only [Act.put, lsT, lsZ, lsS]); refine tkH 24 zg ?_; refine tkH 25 zg ?_; refine tkH 26 zg ?_; have hord : ∀ E : 0 < j, ad8 (M[j - 1]'(by omega)).id M[j].id < 0 := fun h => jp h (jq ar.out)
     exact bfd
    have E : 0 < j := qt ar.out; obtain ⟨Y, ce, bq⟩ := cq.out E; have cm := qq (show ∀ v, Below y.heap.size y v → v.cell? ⟨gm, om + (j - 1) * 11, none⟩ = some (.int .u64 Y) from fun v G => bq v (hAl2h.out.trans (G.mono hAl2h.out.size))); obtain ⟨c6, b5⟩ := qx (decide (id ≤ Y)); have bo := qq b5; have bj := qq ce; have c7 : IntKind.i64.wrap ((j : Int) - 1) = (j : Int) - 1 := by rw [IntKind.wrap_i64]; omega
    have cx : ((j : Int) - 1).toNat = j - 1 := by omega
    have W : (0 : Int) ≤ (j : Int) - 1 := by omega
    have c9 : (1 : Int) ≤ (j : Int) := by omega
    have ct : (j : Int) - 1 < (zw.length : Int) := by omega
    clear ce bq; refine tkH 14 zg ?_; refine tkF 15 zg ?_ (fun v hSw => (N6.pure hSw).at 2 rfl); refine tkH 16 zg ?_; refine tkH 17 zg ?_; refine tkH 18 zg ?_; refine tkH 19 zg ?_; refine tkH 20 zg ?_ (hy := fun v hSw => by (try dsimp only at hSw); have q := cm.out _ hSw; clear hSw; go_simp; (try with_reducible rfl)); refine tkH 21 zg ?_; refine tkF 22 zg ?_ (fun v hSw => (Q0.pure hSw).at 0 rfl); refine tkH 23 zg ?_; refine tkH 24 zg ?_; refine tkH 25 zg ?_; refine tkH 26 zg ?_; clear b5; cases c6
    rotate_left 1
    ·skip
     refine agu 27 _ rfl rfl zg ?_; (try simp only [Act.put, lsT, lsZ, lsS]); refine agu 28 _ rfl rfl zg ?_; (try simp only [Act.put, lsT, lsZ, lsS]); refine agu 29 _ rfl rfl zg ?_; (try simp only [Act.put, lsT, lsZ, lsS]); refine agu 30 _ rfl rfl zg ?_; (try simp only [Act.put, lsT, lsZ, lsS]); refine agu 31 _ rfl rfl zg ?_; (try simp only [Act.put, lsT, lsZ, lsS]); refine agu 32 _ rfl rfl zg ?_; (try simp only [Act.put, lsT, lsZ, lsS]); refine agu 33 _ rfl rfl zg ?_; (try simp only [Act.put, lsT, lsZ, lsS]); refine tkH 34 zg ?_; refine ah9 ?_; have hfin := qq (show R = false by rw [← hReh.out]; exact bfx hkS (.inl (by rw [hSkh.out]; exact bgm (q := ⟨name, lim, zw.map MsT.m⟩) (j := j) (by show j < (zw.map MsT.m).length; rw [hMeh.out]; exact hjM) (.inr ⟨E, by simp only [hMeh.out]; rw [bj.out, hMjh.out]; show 0 ≤ ad8 Y id; have := qt bo.out; unfold ad8; split <;> (try split) <;> omega⟩)))); exact at8
    have hord : ∀ E : 0 < j, ad8 (M[j - 1]'(by omega)).id M[j].id < 0 := fun h => by have := jq bo.out; rw [bj.out, hMjh.out]; show ad8 Y id < 0; unfold ad8; split <;> (try split) <;> omega
    exact bfd
   case rest =>
    obtain ⟨F, rfl, cz, bh, bd⟩ := hcut; have b8 := bx.trans (cz.mono bx.size); cases F
    rotate_left 1
    ·have hfin := qq (bh rfl)
     go_wp2; go_ret; exact ⟨by first | rfl | (rw [hfin.out]; rfl), hB1.trans ((ac.trans (b8.mono ac.size)).mono hB1.size)⟩
    have ay := bd rfl
    have co := qq (show ∀ i, (h : i < M.length) → i < j + 1 → msP nx M[i] = true ∧ (0 < i → ad8 (M[i - 1]'(by omega)).id M[i].id < 0) from fun i h hi => by
     rcases Nat.lt_or_ge i j with q | q
     ·exact bf.out i h q
     ·obtain rfl : i = j := by omega
      exact ⟨ay.1, ay.2⟩)
    clear bh bd ay; go_wp2; go_roundw
    case rel => exact ⟨j + 1, by omega, by go_num, co, b8⟩
    case measure => simp [intOf]; omega
theorem bgz : ∀ (a b : List UInt8) (k : Nat) (_ : k < a.length) (_ : k < b.length), a[k] = b[k] → Lib.compareBytes (a.drop k) (b.drop k) = Lib.compareBytes (a.drop (k + 1)) (b.drop (k + 1)) := by
 intro a b k A D h
 rw [List.drop_eq_getElem_cons A, List.drop_eq_getElem_cons D, h]
 simp [Lib.compareBytes]
theorem bhm (a b : List UInt8) (k : Nat) (A : k < a.length) (D : k < b.length) (h : a[k] < b[k]) : Lib.compareBytes (a.drop k) (b.drop k) = -1 := by
 rw [List.drop_eq_getElem_cons A, List.drop_eq_getElem_cons D]
 simp [Lib.compareBytes, h]
theorem bhn (a b : List UInt8) (k : Nat) (A : k < a.length) (E : k < b.length) (h : b[k] < a[k]) : Lib.compareBytes (a.drop k) (b.drop k) = 1 := by
 have D : ¬ a[k] < b[k] := fun q => UInt8.lt_asymm h q
 rw [List.drop_eq_getElem_cons A, List.drop_eq_getElem_cons E]
 simp [Lib.compareBytes, h, D]
theorem bgo (a b : List UInt8) (k : Nat) (h : a.length ≤ k ∨ b.length ≤ k) (A : k ≤ a.length) (D : k ≤ b.length) : (Lib.compareBytes (a.drop k) (b.drop k) < 0) ↔ a.length < b.length := by
 rcases h with h | h
 ·rw [List.drop_eq_nil_of_le h]
  by_cases q : k < b.length
  ·rw [List.drop_eq_getElem_cons q]; simp [Lib.compareBytes]; omega
  ·rw [List.drop_eq_nil_of_le (by omega)]; simp [Lib.compareBytes]; omega
 ·rw [List.drop_eq_nil_of_le h]
  by_cases q : k < a.length
  ·rw [List.drop_eq_getElem_cons q]; simp [Lib.compareBytes]; omega
  ·rw [List.drop_eq_nil_of_le (by omega)]; simp [Lib.compareBytes]; omega
theorem bg6 {A D : Int} {F H E G : ByteArray} (h : A ≠ D) : aav (A, F, H) (D, E, G) = ad8 A D := by
 have : ad8 A D ≠ 0 := fun e => h ((cmpI_ok.eq _ _).1 e)
 unfold aav ay9 atk; simp [this]
theorem bg7 {E : Int} {D H A G : ByteArray} (h : D ≠ A) : aav (E, D, H) (E, A, G) = abf D A := by
 have F : ad8 E E = 0 := (cmpI_ok.eq _ _).2 rfl
 have : abf D A ≠ 0 := fun e => h ((cmpB_ok.eq _ _).1 e)
 unfold aav ay9 atk; simp [this, F, ay9, atk]
theorem bg8 {D : Int} {A F E : ByteArray} : aav (D, A, F) (D, A, E) = abf F E := by
 have G : ad8 D D = 0 := (cmpI_ok.eq _ _).2 rfl
 have H : abf A A = 0 := (cmpB_ok.eq _ _).2 rfl
 unfold aav ay9 atk; simp [G, H, ay9, atk]
theorem bf3 (a : ByteArray) (k : Nat) (h : k < a.size) : a[k] = a.data.toList[k]'(by simpa using h) := by simp [ByteArray.getElem_eq_getElem_data]
theorem bfe {P : Prop} (h : P := by
 go_wp2
 go_ret
 refine ⟨?_, hB⟩
 have := hE.out
 rw [← hc'.out, la'.out, lb'.out] at this
 simp [this]) : P := h
theorem bfs (w : World) (a b : ByteArray) (ha : a.size ≤ 1000000) (hb : b.size ≤ 1000000) :
 Calls Tryz.prog 121 #[.string a, .string b] w fun e w' => e = .returned (.bool (decide (abf a b < 0))) ∧ Below w.heap.size w w' := by
 have z : a.data.toList.length = a.size := by simp
 have lb : b.data.toList.length = b.size := by simp
 have la' := qq z; have lb' := qq lb; clear z lb
 go_enter Tryz.func121, Tryz.ntmps121
 go_wp2
 go_loopw [5] (fun I wr => ∃ k : Nat, k ≤ a.size ∧ k ≤ b.size ∧ I = .int .i64 k ∧ abf a b = Lib.compareBytes (a.data.toList.drop k) (b.data.toList.drop k) ∧ Below w.heap.size w wr) (fun I _ => a.size - (intOf I).toNat)
 case atStart => exact ⟨0, by omega, by omega, rfl, rfl, qz _ _⟩
 case round =>
  obtain ⟨k, N, M, rfl, Y, hB⟩ := hrel; have hc' := qq Y; clear Y; by_cases W : k < a.size
  ·by_cases O : k < b.size
   ·have i1 : (0 : Int) ≤ (k : Int) ∧ (k : Int) < (a.size : Int) := by omega
    have i2 : (0 : Int) ≤ (k : Int) ∧ (k : Int) < (b.size : Int) := by omega
    have e1 := qq (bf3 a k W); have Z := qq (bf3 b k O); have D : k < a.data.toList.length := by rw [la'.out]; exact W
    have E : k < b.data.toList.length := by rw [lb'.out]; exact O
    have H := qq (bgz a.data.toList b.data.toList k D E); have J := qq (bhm a.data.toList b.data.toList k D E); have G := qq (bhn a.data.toList b.data.toList k D E); obtain ⟨p, X⟩ := zj (a.data.toList[k]); obtain ⟨q, U⟩ := zj (b.data.toList[k]); rw [← X] at H J G e1; rw [← U] at H J G Z; clear X U D E; have A := e1.out; have a2 := Z.out; by_cases F : p = q
    ·have hn : ((a[k].toNat : Int) != (b[k].toNat : Int)) = false := by rw [A, a2, F]; simp
     clear A a2; go_wp2; go_quiet (fail); go_wp2; go_roundw
     case rel => exact ⟨k + 1, by omega, by omega, by go_num, by rw [hc'.out]; exact H.out F, atx hB _⟩
     case measure => simp [intOf]; omega
    ·have ab : p.toNat ≠ q.toNat := fun e => F (UInt8.toNat_inj.1 e)
     have hn : ((a[k].toNat : Int) != (b[k].toNat : Int)) = true := by rw [A, a2]; simp; omega
     have K : decide (a[k].toNat < b[k].toNat) = decide (abf a b < 0) := by
      rw [A, a2, hc'.out]; rcases Nat.lt_or_ge p.toNat q.toNat with l | l
      ·rw [J.out (UInt8.lt_iff_toNat_lt.2 l)]; simp; omega
      ·rw [G.out (UInt8.lt_iff_toNat_lt.2 (by omega))]; simp; omega
     have aa := qq K; clear K A a2; go_wp2; go_quiet (fail); go_wp2; go_quiet (fail); go_wp2; go_ret; exact ⟨by rw [← aa.out]; rfl, atx (atx hB _) _⟩
   ·have hE := qq (bgo a.data.toList b.data.toList k (Or.inr (by rw [lb'.out]; omega)) (by rw [la'.out]; exact N) (by rw [lb'.out]; exact M))
    exact bfe
  ·have hE := qq (bgo a.data.toList b.data.toList k (Or.inl (by rw [la'.out]; omega)) (by rw [la'.out]; exact N) (by rw [lb'.out]; exact M))
   exact bfe
theorem bgn {x y : Int} : ad8 x y < 0 ↔ x < y := by unfold ad8; split <;> (try split) <;> omega
def bgp (x y : Xn) : Int := if aav x y = 0 then 0 else if aav x y < 0 then -1 else 1
theorem bgg {x y : Xn} : (0 ≤ bgp x y) ↔ 0 ≤ aav x y := by unfold bgp; split <;> (try split) <;> omega
theorem bg0 (D F : Int) (A H E G : ByteArray) : bgp (D, A, H) (F, E, G) = if decide ((D, A, H) = (F, E, G)) = true then 0 else if (if (D != F) = true then decide (D < F) else if (A.toList == E.toList) = true then decide (abf H G < 0) else decide (abf A E < 0)) = true then -1 else 1 := by
 unfold bgp
 by_cases I : (D, A, H) = (F, E, G)
 ·rw [qw ((cmpX_ok.eq _ _).2 I), qw (qp I)]
 ·rw [qk (fun e => I ((cmpX_ok.eq _ _).1 e)), qk (c := decide ((D, A, H) = (F, E, G)) = true) (by rw [qm]; exact I)]
  by_cases J : D = F
  ·subst J
   rw [qk (show ¬ (D != D) = true by simp)]; by_cases K : A = E
   ·subst K
    rw [qw (show (A.toList == A.toList) = true by simp), bg8]; simp
   ·rw [qk (show ¬ (A.toList == E.toList) = true from fun e => K (avf.1 e)), bg7 K]; simp
  ·rw [qw (show (D != F) = true by simpa using J), bg6 J]; simp only [bgn, qm]
theorem bft (w : World) (F H : Int) (A E D G : ByteArray) (ae : A.size ≤ 1000000) (af : E.size ≤ 1000000) (ag : D.size ≤ 1000000) (ab : G.size ≤ 1000000) :
 Calls Tryz.prog 55 #[.agg #[.int .u32 F, .string A, .string E], .agg #[.int .u32 H, .string D, .string G]] w fun e w' => e = .returned (.int .i64 (bgp (F, A, E) (H, D, G))) ∧ Below w.heap.size w w' := by
 have N : Below w.heap.size w ((w.alloc (.cells #[.int .u32 F, .string A, .string E] 30)).alloc (.cells #[.int .u32 H, .string D, .string G] 30)) := ((qz w.heap.size w).alloc (qj _) _).alloc (by simp) _
 have x0 : Blk ((w.alloc (.cells #[.int .u32 F, .string A, .string E] 30)).alloc (.cells #[.int .u32 H, .string D, .string G] 30)) w.heap.size [.int .u32 F, .string A, .string E] := (Blk.new w [.int .u32 F, .string A, .string E] 30).alloc _
 have y0 : Blk ((w.alloc (.cells #[.int .u32 F, .string A, .string E] 30)).alloc (.cells #[.int .u32 H, .string D, .string G] 30)) (w.heap.size + 1) [.int .u32 H, .string D, .string G] := by have := Blk.new (w.alloc (.cells #[.int .u32 F, .string A, .string E] 30)) [.int .u32 H, .string D, .string G] 30; simpa using this
 have l1 := qq (fun (v : World) => bfs v E G af ab)
 have Y := qq (fun (v : World) => bfs v A D ae ag)
 obtain ⟨R, I⟩ := qx (bgp (F, A, E) (H, D, G))
 rw [I]
 have I := I.symm.trans (bg0 F H A E D G)
 obtain ⟨h, U⟩ := qx (decide ((F, A, E) = (H, D, G)))
 have qE := fun (u : World) => (azr u F H A E D G).trans (show _ = Result.ok (.bool h) u by rw [bge, U])
 obtain ⟨e1, he1⟩ := qx (A.toList == D.toList)
 obtain ⟨z, he2⟩ := qx (F != H)
 obtain ⟨b1, J⟩ := qx (decide (abf E G < 0))
 obtain ⟨b2, O⟩ := qx (decide (abf A D < 0))
 obtain ⟨b3, ac⟩ := qx (decide (F < H))
 rw [J] at l1; rw [O] at Y
 rw [U, he1, he2, J, O, ac] at I
 obtain ⟨l, Z⟩ := zj (if z = true then b3 else if e1 = true then b1 else b2)
 rw [← Z] at I
 have M := qq I
 clear I U J O
 cases h
 rotate_left 1
 ·have aa := qq (show R = 0 from M.out)
  go_enter Tryz.func55, Tryz.ntmps55; go_wp2; go_ret; exact ⟨by rw [aa.out]; rfl, N⟩
 cases e1 <;> cases z <;> simp only [if_true, if_false, Bool.false_eq_true, reduceIte] at Z <;> subst Z <;> cases l <;>
  (go_enter Tryz.func55, Tryz.ntmps55
   go_wp2_with (first | (go_at_call 121; (first | (with_reducible refine (l1.out _).mono ?_) | (with_reducible refine (Y.out _).mono ?_)); rintro e w1 ⟨rfl, W⟩; have x1 := x0.pure W; have y1 := y0.pure W; have X := N.trans (W.mono N.size); obtain ⟨h, e1, z⟩ := x1.a3; obtain ⟨e3, e4, e5⟩ := y1.a3) | (go_at_call 121; (first | (with_reducible refine (l1.out _).mono ?_) | (with_reducible refine (Y.out _).mono ?_)); rintro e w2 ⟨rfl, K⟩; have x2 := x1.pure K; have y2 := y1.pure K; have ad := X.trans (K.mono X.size); obtain ⟨f0, f1, f2⟩ := x2.a3; obtain ⟨f3, f4, f5⟩ := y2.a3)); go_ret
   exact ⟨by first | (rw [show R = 1 from M.out]; rfl) | (rw [show R = -1 from M.out]; rfl), by first | exact ad | exact X⟩)
structure En.Sz (e : En) : Prop where
 name : (e.name.size : Int) < 4611686018427387904
 zu : ∀ p ∈ e.zu, (p.q.size : Int) < 4611686018427387904
 zy : ∀ r ∈ e.zy, (r.q.size : Int) < 4611686018427387904
theorem bg9 {b : Bool} (h : (!b) = true) : b = false := by cases b with | false => rfl | true => cases h
theorem bg1 {b : Bool} (h : (!b) = false) : b = true := by cases b with | true => rfl | false => cases h
theorem bg2 {k : Int} (h : uW k = true) : k = 3 ∨ k = 4 := by
 unfold uW at h
 by_cases A : k = 3
 ·exact .inl A
 by_cases D : k = 4
 ·exact .inr D
 exfalso
 have e : us k = 3 ∨ us k = 1 ∨ us k = 6 ∨ us k = 4 ∨ us k = 0 := by
  unfold us; simp only [A, D, if_false]
  repeat' split
  all_goals simp
 rcases e with e | e | e | e | e <;> rw [e] at h <;> exact jp h (by decide)
theorem bha {k : Int} (h : k = 3 ∨ k = 4) (p : Pt) : Pt.okB (k == 3) p = (p.mayB && (decide (p.id = 0) == (k == 4))) := by
 rcases h with rfl | rfl
 ·rw [show ((3 : Int) == 3) = true from rfl, show ((3 : Int) == 4) = false from rfl, ← bgw]; cases decide (p.id = 0) <;> rfl
 ·rw [show ((4 : Int) == 3) = false from rfl, show ((4 : Int) == 4) = true from rfl, ← bgx]; cases decide (p.id = 0) <;> rfl
theorem bf4 {A : Type} {f : A → Bool} {L : List A} {k : Nat} (D : k < L.length) (h : (L.take k).all f = true) (E : f L[k] = true) : (L.take (k + 1)).all f = true := by
 rw [jx D, List.all_append, h]
 simp [E]
theorem bf5 {A : Type} {f : A → Bool} {L : List A} {k : Nat} (E : k < L.length) (D : f L[k] = false) : L.all f = false := by
 rw [Bool.eq_false_iff]
 intro h
 rw [jt] at h
 rw [h _ (qy E)] at D
 exact jp D (by simp)
theorem bef {P : Prop} (h : P := by
 go_wp2_with (first | (go_at_call 105; (with_reducible refine (bcx _ name hzn.out).mono ?_); rintro e w2 ⟨he, hB2⟩; rw [q3h.out] at he; subst he; have hb2 := hb.trans (hB2.mono hb.size); have A2 := hAh.out _ hb2; have m2 := A2.at 2 rfl) | (go_at_call 106; (with_reducible refine (bec _ n).mono ?_); rintro e w3 ⟨he, rfl⟩; rw [q6h.out] at he; subst he))
 go_meet
 exact ⟨rfl, hb2⟩) : P := h
theorem bed {P : Prop} (h : P := by
 go_wp2_with (first | (go_at_call 105; (with_reducible refine (bcx _ name hzn.out).mono ?_); rintro e w2 ⟨he, hB2⟩; rw [q3h.out] at he; subst he; have hb2 := hb.trans (hB2.mono hb.size); have A2 := hAh.out _ hb2; have m2 := A2.at 2 rfl) | (go_at_call 106; (with_reducible refine (bec _ n).mono ?_); rintro e w3 ⟨he, rfl⟩; rw [q6h.out] at he; subst he))
 go_meet
 exact ⟨rfl, hb⟩) : P := h
theorem beh {P : Prop} (h : P := by
 go_wp2_with (go_at_call 59; (with_reducible refine (qch.out _).mono ?_); rintro e w2 ⟨rfl, hB2⟩; have hb2 := hb.trans (hB2.mono hb.size); have A2 := hAh.out _ hb2; obtain ⟨m0, m1, m2, m3, m4, m5, m6, m7⟩ := A2.a8)
 go_meet
 exact ⟨rfl, hb2⟩) : P := h
theorem bek {P : Prop} (h : P := by
 go_wp2_with (go_at_call 59; (with_reducible refine (qch.out _).mono ?_); rintro e w2 ⟨rfl, hB2⟩; have hb2 := hb.trans (hB2.mono hb.size); have A2 := hAh.out _ hb2; obtain ⟨m0, m1, m2, m3, m4, m5, m6, m7⟩ := A2.a8)
 go_meet
 exact ⟨rfl, hb⟩) : P := h
theorem bfl {P : Prop} (h : P := by
 skip
 have hf := qq (show e0.chk = 130 by rw [hchk.out, hok4.out, show tb = false by rw [← htbh.out]; exact bf5 hlt (by rw [hf2.out]; rfl)]; simp)
 go_wp2_with (first | (go_at_call 105; (with_reducible refine (bcx _ q hqs.out).mono ?_); rintro e w2 ⟨he, hB2⟩; rw [hqbh.out] at he; subst he; have hb2 := hb.trans (hB2.mono hb.size); have A2 := hAA.out _ hB2; have m7 := A2.at 7 rfl; obtain ⟨x0, x1⟩ := hcx.out _ hB2) | (go_at_call 106; (with_reducible refine (bec _ i).mono ?_); rintro e w3 ⟨he, rfl⟩; rw [hibh.out] at he; subst he))
 go_ret
 exact ⟨by rw [hf.out]; rfl, hB1.trans (hb2.mono hsz.out)⟩) : P := h
theorem ber {P : Prop} (h : P := by
 have hf := qq (show e0.chk = 130 by rw [hchk.out, hok4.out, show pb = false by rw [← hpbh.out]; exact bf5 hlt (by rw [hf2.out]; rfl)]; rfl)
 go_wp2
 go_ret
 exact ⟨by rw [hf.out]; rfl, hB1.trans ((hb0.out.trans (hb.mono hb0.out.size)).mono hsz.out)⟩) : P := h
theorem bes {P : Prop} (h : P := by
 go_enter Tryz.func39, Tryz.ntmps39
 go_wp2_with (go_at_call 104; (with_reducible refine (hrow2.out).mono ?_); rintro e w2 ⟨rfl, rfl⟩)
 go_ret
 exact ⟨by rw [hf.out]; rfl, hB1⟩) : P := h
theorem bff {P : Prop} (h : P := by
 skip
 have hall2 := qq (bf4 hlt hall.out (by rw [hf2.out]; rfl))
 go_wp2
 go_roundw
 case rel => exact ⟨k + 1, by omega, by go_num, hall2, hb0.out.trans (hb.mono hb0.out.size)⟩
 case measure => simp [intOf]; omega) : P := h
theorem bfz (t : EnT) (P : Nat → Prop) (w : World) (hR : EnRd P w t) (hz : t.e.Sz) : Calls Tryz.prog 39 #[t.arg] w fun e w' => e = .returned (.int .i64 t.e.chk) ∧ Below w.heap.size w w' := by
 obtain ⟨kind, name, n, H, I, J, O, M, N, K, A, D, rfl, b1, bp⟩ := hR.open
 have hzn := qq (show (name.size : Int) < 4611686018427387904 from hz.name)
 have ct := qq (show ∀ x ∈ A, (x.q.size : Int) < 4611686018427387904 from fun x hx => hz.zu x.p (jv.2 ⟨x, hx, rfl⟩))
 have ck := qq (show ∀ r ∈ D, (r.q.size : Int) < 4611686018427387904 from hz.zy)
 clear hz
 have hB1 := (qz w.heap.size w).alloc (qj _) (.cells #[.int .u8 kind, .string name, .int .u64 n, .int .u32 H, .string I, .string J, .slice O A.length M, .slice N D.length K] 34)
 have A1 := Blk.new w [.int .u8 kind, .string name, .int .u64 n, .int .u32 H, .string I, .string J, .slice O A.length M, .slice N D.length K] 34
 have R1 := hR.pure hB1
 obtain ⟨wk, bg⟩ := qx ((EnT.mk kind name n (H, I, J) (.slice O A.length M) (.slice N D.length K) A D).wk)
 have bm := qq (show wk = (decide (A.length ≤ 100) && decide (D.length ≤ 100) && A.all (fun p => Pt.okB (kind == 3) p.p) && D.all Rf.okB) from bg.symm)
 obtain ⟨c1, au⟩ := qx (if uN kind then qn name else name.size == 0)
 obtain ⟨c2, av⟩ := qx (if uM kind then ah2 n else n == 0)
 obtain ⟨c3, an⟩ := qx (if uX kind then Xn.okB (H, I, J) else (H == 0 && I.size == 0 && J.size == 0))
 obtain ⟨z, ad⟩ := qx (uW kind || (A.isEmpty && D.isEmpty))
 obtain ⟨u, hu⟩ := qx (us kind)
 have af := bdm kind name n H I J (.slice O A.length M) (.slice N D.length K) A D
 rw [bg, au, av, an, ad, hu] at af
 obtain ⟨nb, bb⟩ := qx (uN kind)
 obtain ⟨mb, ba⟩ := qx (uM kind)
 obtain ⟨xB, bc⟩ := qx (uX kind)
 obtain ⟨wb, ar⟩ := qx (uW kind)
 rw [bb] at au; rw [ba] at av; rw [bc] at an; rw [ar] at ad
 have am := bgu (w.alloc (.cells #[.int .u8 kind, .string name, .int .u64 n, .int .u32 H, .string I, .string J, .slice O A.length M, .slice N D.length K] 34)) kind
 rw [bb, ba, bc, ar, hu] at am
 obtain ⟨e0, bq⟩ : ∃ e, (EnT.mk kind name n (H, I, J) (.slice O A.length M) (.slice N D.length K) A D).e = e := ⟨_, rfl⟩
 rw [bq] at af ⊢
 obtain ⟨ok, az⟩ := qx e0.okB
 have hchk := qq (show e0.chk = if ok then 0 else 130 by unfold En.chk; rw [az])
 rw [az] at af
 have b4 := qq af
 have cq := qq au; have cb := qq av; have cu := qq an; have bo := qq ad
 have cg := qq ar
 have cw := qq (show A.length ≤ maxLen ∧ D.length ≤ maxLen from ⟨b1, bp⟩)
 rw [EnT.arg_mk]
 by_cases bf : u = 0
 ·subst bf
  have hf := qq (show e0.chk = 130 by rw [hchk.out, b4.out]; rfl); have hrow2 := qq (show Calls Tryz.prog 104 #[.int .u8 kind] (w.alloc (.cells #[.int .u8 kind, .string name, .int .u64 n, .int .u32 H, .string I, .string J, .slice O A.length M, .slice N D.length K] 34)) (fun e w' => e = .returned (.tuple #[.bool nb, .bool mb, .bool xB, .bool wb, .bool false]) ∧ (w.alloc (.cells #[.int .u8 kind, .string name, .int .u64 n, .int .u32 H, .string I, .string J, .slice O A.length M, .slice N D.length K] 34)) = w') from am); clear am bg au av an ad hu af bb ba bc ar az bq b1 bp; obtain ⟨a0, a1, a2, a3, a4, a5, a6, a7⟩ := A1.a8; exact bes
 have ay := qq (show ok = (c1 && (c2 && (c3 && (z && wk)))) by rw [b4.out, ju.2 bf]; rfl)
 have hrow2 := qq (show Calls Tryz.prog 104 #[.int .u8 kind] (w.alloc (.cells #[.int .u8 kind, .string name, .int .u64 n, .int .u32 H, .string I, .string J, .slice O A.length M, .slice N D.length K] 34)) (fun e w' => e = .returned (.tuple #[.bool nb, .bool mb, .bool xB, .bool wb, .bool true]) ∧ (w.alloc (.cells #[.int .u8 kind, .string name, .int .u64 n, .int .u32 H, .string I, .string J, .slice O A.length M, .slice N D.length K] 34)) = w') by rw [show true = !(u == 0) by rw [ju.2 bf]; rfl]; exact am)
 clear bf am bg au av an ad hu af bb ba bc ar az bq b1 bp
 obtain ⟨a0, a1, a2, a3, a4, a5, a6, a7⟩ := A1.a8
 by_cases hp : A.length ≤ 100
 rotate_left 1
 ·have d1 : decide ((100 : Int) < (A.length : Int)) = true := qp (by omega)
  have d2 : (100 : Int) < (A.length : Int) := by omega
  have ao : wk = false := by rw [bm.out, qg hp]; simp
  have hf := qq (show e0.chk = 130 by rw [hchk.out, ay.out, ao]; simp); clear hp ao; exact bes
 have ce : decide ((100 : Int) < (A.length : Int)) = false := qg (by omega)
 have cc : ¬ (100 : Int) < (A.length : Int) := by omega
 have ca := qq hp
 by_cases ht : D.length ≤ 100
 rotate_left 1
 ·have d1 : decide ((100 : Int) < (D.length : Int)) = true := qp (by omega)
  have d2 : (100 : Int) < (D.length : Int) := by omega
  have ao : wk = false := by rw [bm.out, qg ht]; simp
  have hf := qq (show e0.chk = 130 by rw [hchk.out, ay.out, ao]; simp); clear ht ao; exact bes
 have cf : decide ((100 : Int) < (D.length : Int)) = false := qg (by omega)
 have cd : ¬ (100 : Int) < (D.length : Int) := by omega
 have b5 := qq ht
 obtain ⟨pb, br⟩ := qx (A.all (fun p => Pt.okB (kind == 3) p.p))
 obtain ⟨tb, bt⟩ := qx (D.all Rf.okB)
 have ae := qq (show ok = (c1 && (c2 && (c3 && (z && (pb && tb))))) by rw [ay.out, bm.out, br, bt, qp hp, qp ht]; rfl)
 have hpbh := qq br; have htbh := qq bt
 clear hp ht br bt ay
 have hAh := qq (fun (v : World) (h : Below (w.alloc (.cells #[.int .u8 kind, .string name, .int .u64 n, .int .u32 H, .string I, .string J, .slice O A.length M, .slice N D.length K] 34)).heap.size (w.alloc (.cells #[.int .u8 kind, .string name, .int .u64 n, .int .u32 H, .string I, .string J, .slice O A.length M, .slice N D.length K] 34)) v) => A1.pure h)
 have b0 := qq (fun (v : World) (h : Below (w.alloc (.cells #[.int .u8 kind, .string name, .int .u64 n, .int .u32 H, .string I, .string J, .slice O A.length M, .slice N D.length K] 34)).heap.size (w.alloc (.cells #[.int .u8 kind, .string name, .int .u64 n, .int .u32 H, .string I, .string J, .slice O A.length M, .slice N D.length K] 34)) v) => R1.pure h)
 go_enter Tryz.func39, Tryz.ntmps39
 go_upto_region 4 with (go_at_call 104; (with_reducible refine (hrow2.out).mono ?_); rintro e w2 ⟨rfl, rfl⟩)
 have hb := qz (w.alloc (.cells #[.int .u8 kind, .string name, .int .u64 n, .int .u32 H, .string I, .string J, .slice O A.length M, .slice N D.length K] 34)).heap.size (w.alloc (.cells #[.int .u8 kind, .string name, .int .u64 n, .int .u32 H, .string I, .string J, .slice O A.length M, .slice N D.length K] 34))
 have hsz := qq (show w.heap.size ≤ (w.alloc (.cells #[.int .u8 kind, .string name, .int .u64 n, .int .u32 H, .string I, .string J, .slice O A.length M, .slice N D.length K] 34)).heap.size from hB1.size)
 generalize World.alloc w (.cells #[.int .u8 kind, .string name, .int .u64 n, .int .u32 H, .string I, .string J, .slice O A.length M, .slice N D.length K] 34) = W1 at *
 clear a0 a1 a2 a3 a4 a5 a6 a7 ce cc cf cd
 go_cut [66] from 33 to 65 (fun ch wx => ch = .bool (!(c1 && c2)) ∧ Below W1.heap.size W1 wx)
 case first =>
  have ab := hAh.out _ hb; obtain ⟨a0, a1, a2, a3, a4, a5, a6, a7⟩ := ab.a8; have W := cq.out; cases nb
  ·rw [qk (by simp)] at W
   by_cases hz : name.size = 0
   ·obtain rfl : name = ⟨#[]⟩ := af5 hz
    obtain rfl : true = c1 := W; clear hz; have F := cb.out; cases mb
    ·rw [qk (by simp)] at F
     by_cases Z : n = 0
     ·obtain rfl : true = c2 := by rw [← F, Z]; rfl
      clear F; obtain rfl : n = 0 := Z; exact bed
     ·obtain rfl : false = c2 := by rw [← F]; exact (ju.2 Z).symm
      have e1 : (n != 0) = true := bne_iff_ne.2 Z; have e2 : (n == 0) = false := ju.2 Z; clear F Z; exact bed
    ·rw [qw rfl] at F
     have q6h := qq F; clear F; cases c2
     ·skip
      exact bed
     ·skip
      exact bed
   ·obtain rfl : false = c1 := by rw [← W]; exact (ju.2 hz).symm
    have g1 : ¬ name.toList = [] := fun e => hz (by rw [← acr, e]; rfl)
    have g2 := aeg (show 0 < name.size by omega); clear hz W; exact bed
  ·rw [qw rfl] at W
   have q3h := qq W; clear W; cases c1
   ·skip
    exact bef
   ·skip
    have F := cb.out; cases mb
    ·rw [qk (by simp)] at F
     by_cases Z : n = 0
     ·obtain rfl : true = c2 := by rw [← F, Z]; rfl
      clear F; obtain rfl : n = 0 := Z; exact bef
     ·obtain rfl : false = c2 := by rw [← F]; exact (ju.2 Z).symm
      have e1 : (n != 0) = true := bne_iff_ne.2 Z; have e2 : (n == 0) = false := ju.2 Z; clear F Z; exact bef
    ·rw [qw rfl] at F
     have q6h := qq F; clear F; cases c2
     ·skip
      exact bef
     ·skip
      exact bef
 case rest =>
 obtain ⟨rfl, aq⟩ := hcut
 have hb := aq; clear aq
 obtain ⟨co, bk⟩ := qx (!(c1 && c2))
 have bh := qq bk
 rw [bk]
 clear bk
 cases co
 rotate_left 1
 ·skip
  have hf := qq (show e0.chk = 130 by rw [hchk.out, ae.out]; rw [← Bool.and_assoc, bg9 bh.out]; rfl); exact aet
 have bj := qq (show ok = (c3 && (z && (pb && tb))) by rw [ae.out, ← Bool.and_assoc, bg1 bh.out]; rfl)
 clear bh ae
 go_upto_region 6 with fail
 go_cut [97] from 67 to 96 (fun cn wx => cn = .bool (!(c3 && z)) ∧ Below W1.heap.size W1 wx)
 case first =>
  have ab := hAh.out _ hb; obtain ⟨a0, a1, a2, a3, a4, a5, a6, a7⟩ := ab.a8; have W := cu.out; have zx := bgk; have cv : wrap64 ((A.length : Int) + (D.length : Int)) = ((A.length + D.length : Nat) : Int) := by rw [IntWalk.wrap64_in _ (by have := ca.out; have := b5.out; omega)]; omega
  cases xB
  ·rw [qk (by simp)] at W
   have qX := fun (v : World) => (azs v H 0 I J ⟨#[]⟩ ⟨#[]⟩).trans (by rw [xz, W])
   clear W; cases c3
   ·skip
    exact bek
   ·skip
    have F := bo.out; cases wb
    ·rw [Bool.false_or] at F
     by_cases X : 0 < A.length + D.length
     ·have g1 : (0 : Int) < ((A.length + D.length : Nat) : Int) := by omega
      have g2 : decide ((0 : Int) < ((A.length + D.length : Nat) : Int)) = true := qp g1; have g3 : decide (0 < A.length + D.length) = true := qp X; have g4 : (0 : Int) < (A.length : Int) + (D.length : Int) := by omega
      have g5 : decide ((0 : Int) < (A.length : Int) + (D.length : Int)) = true := qp g4; obtain rfl : false = z := by rw [← F]; cases A with | nil => (cases D with | nil => simp at X | cons x l => rfl) | cons x l => rfl
      clear F X; exact bek
     ·have g1 : ¬ (0 : Int) < ((A.length + D.length : Nat) : Int) := by omega
      have g2 : decide ((0 : Int) < ((A.length + D.length : Nat) : Int)) = false := qg g1; have g3 : decide (0 < A.length + D.length) = false := qg X; have g4 : ¬ (0 : Int) < (A.length : Int) + (D.length : Int) := by omega
      have g5 : decide ((0 : Int) < (A.length : Int) + (D.length : Int)) = false := qg g4; obtain rfl : true = z := by rw [← F]; cases A with | nil => (cases D with | nil => rfl | cons x l => simp at X) | cons x l => simp at X
      clear F X; exact bek
    ·obtain rfl : true = z := F
     exact bek
  ·rw [qw rfl] at W
   have qc := fun (v : World) => be7 v H I J
   simp only [W] at qc; clear W; cases c3
   ·simp only [Bool.false_eq_true, if_false] at qc
    have qch := qq qc; clear qc; exact beh
   ·simp only [if_true] at qc
    have qch := qq qc; clear qc; have F := bo.out; cases wb
    ·rw [Bool.false_or] at F
     by_cases X : 0 < A.length + D.length
     ·have g1 : (0 : Int) < ((A.length + D.length : Nat) : Int) := by omega
      have g2 : decide ((0 : Int) < ((A.length + D.length : Nat) : Int)) = true := qp g1; have g3 : decide (0 < A.length + D.length) = true := qp X; have g4 : (0 : Int) < (A.length : Int) + (D.length : Int) := by omega
      have g5 : decide ((0 : Int) < (A.length : Int) + (D.length : Int)) = true := qp g4; obtain rfl : false = z := by rw [← F]; cases A with | nil => (cases D with | nil => simp at X | cons x l => rfl) | cons x l => rfl
      clear F X; exact beh
     ·have g1 : ¬ (0 : Int) < ((A.length + D.length : Nat) : Int) := by omega
      have g2 : decide ((0 : Int) < ((A.length + D.length : Nat) : Int)) = false := qg g1; have g3 : decide (0 < A.length + D.length) = false := qg X; have g4 : ¬ (0 : Int) < (A.length : Int) + (D.length : Int) := by omega
      have g5 : decide ((0 : Int) < (A.length : Int) + (D.length : Int)) = false := qg g4; obtain rfl : true = z := by rw [← F]; cases A with | nil => (cases D with | nil => rfl | cons x l => simp at X) | cons x l => simp at X
      clear F X; exact beh
    ·obtain rfl : true = z := F
     exact beh
 case rest =>
 obtain ⟨rfl, aq⟩ := hcut
 have hb := aq; clear aq
 obtain ⟨cr, bl⟩ := qx (!(c3 && z))
 have ax := qq bl
 rw [bl]
 clear bl
 have ae := bj
 cases cr
 rotate_left 1
 ·skip
  have hf := qq (show e0.chk = 130 by rw [hchk.out, ae.out]; rw [← Bool.and_assoc, bg9 ax.out]; rfl); exact aet
 have hok4 := qq (show ok = (pb && tb) by rw [bj.out, ← Bool.and_assoc, bg1 ax.out]; rfl)
 have ad := qq (show z = true from (Bool.and_eq_true_iff.1 (bg1 ax.out)).2)
 clear ax ae bj
 go_upto_region 8 with fail
 go_wp2_with fail
 go_loopw [8] (fun s8 wr => ∃ k : Nat, k ≤ A.length ∧ s8 = .int .i64 (k : Int) ∧ Hid ((A.take k).all (fun p : PtT => Pt.okB (kind == 3) p.p) = true) ∧ Below W1.heap.size W1 wr) (fun s8 _ => A.length - (intOf s8).toNat)
 case atStart => exact ⟨0, by omega, rfl, qq (by simp), hb⟩
 case round =>
  clear hb; obtain ⟨k, hk, rfl, hall, hb⟩ := hrel; have ab := hAh.out _ hb; have a6 := ab.at 6 rfl; by_cases hlt : k < A.length
  ·have h1 : (k : Int) < (A.length : Int) := by omega
   have l1 : (A.length : Int) ≤ 100 := by have := ca.out; omega
   have ac : Slc aat 12 wr (.slice O A.length M) A := (b0.out _ hb).p; obtain ⟨U, off, rfl⟩ := ac.addrB hlt; have ah := (b0.out _ hb).r A[k] (qy hlt); obtain ⟨q, id, key, aw, red, mid, uk, un, us, aj, ak, ag, ai, aa, ul, al, hx, q0, q1, q2, W, q4, F, q6, q7, q8, q9, cm, cl⟩ := ad5 ac hlt ah
   have cj := qq (show kind = 3 ∨ kind = 4 by
    have h := bo.out; rw [ad.out] at h
    cases wb with
    | true => exact bg2 cg.out
    | false => exfalso; cases A with | nil => simp at hlt | cons x l => simp at h)
   have b6 := qq (show (fun p : PtT => Pt.okB (kind == 3) p.p) A[k] = ((PtT.mk q id (PT.mk key aw red mid (VT.mk uk un us (.slice aj aa.length ak) (.slice ag ul.length ai) aa ul)) al).p.mayB && (decide (id = 0) == (kind == 4))) by show Pt.okB (kind == 3) A[k].p = _; rw [bha cj.out, hx]; rfl); obtain ⟨b7, bi⟩ := qx ((PtT.mk q id (PT.mk key aw red mid (VT.mk uk un us (.slice aj aa.length ak) (.slice ag ul.length ai) aa ul)) al).p.mayB); have b9 := qq bi; obtain ⟨zb, bx⟩ := qx (decide (id = 0)); obtain ⟨kb, bd⟩ := qx (kind == 4); have z1 : (id == 0) = zb := bx; have hf2 := qq (show (fun p : PtT => Pt.okB (kind == 3) p.p) A[k] = (b7 && (zb == kb)) by rw [b6.out, bi, bx, bd]); have hqs := qq (show (q.size : Int) < 4611686018427387904 by have h := ct.out A[k] (qy hlt); rw [hx] at h; exact h); rw [hx] at ah; have ah : Rd P wr (VT.mk uk un us (.slice aj aa.length ak) (.slice ag ul.length ai) aa ul) := ah; have hAA := qq (fun (v : World) (h : Below wr.heap.size wr v) => ab.pure h)
   have hcx := qq (fun (v : World) (h : Below wr.heap.size wr v) => show v.cell? ⟨U, off + k * 12, none⟩ = some (.string q) ∧ v.cell? ⟨U, off + k * 12 + 1, none⟩ = some (.int .u64 id) ∧ v.cell? ⟨U, off + k * 12 + 2, none⟩ = some (.string key) ∧ v.cell? ⟨U, off + k * 12 + 3, none⟩ = some (.bool aw) ∧ v.cell? ⟨U, off + k * 12 + 4, none⟩ = some (.bool red) ∧ v.cell? ⟨U, off + k * 12 + 5, none⟩ = some (.string mid) ∧ v.cell? ⟨U, off + k * 12 + 6, none⟩ = some (.int .u8 uk) ∧ v.cell? ⟨U, off + k * 12 + 7, none⟩ = some (.int .u64 un) ∧ v.cell? ⟨U, off + k * 12 + 8, none⟩ = some (.string us) ∧ v.cell? ⟨U, off + k * 12 + 9, none⟩ = some (.slice aj aa.length ak) ∧ v.cell? ⟨U, off + k * 12 + 10, none⟩ = some (.slice ag ul.length ai) ∧ v.cell? ⟨U, off + k * 12 + 11, none⟩ = some (.string al) from by
    have b2 : Slc aat 12 v (.slice (some ⟨U, off, none⟩) A.length M) A := ac.pure h; have G := fun j u (hu : (aat A[k])[j]? = some u) => b2.get k hlt j u hu
    rw [hx] at G
    exact ⟨G 0 _ rfl, G 1 _ rfl, G 2 _ rfl, G 3 _ rfl, G 4 _ rfl, G 5 _ rfl, G 6 _ rfl, G 7 _ rfl, G 8 _ rfl, G 9 _ rfl, G 10 _ rfl, G 11 _ rfl⟩)
   have b8 := qq (fun (v : World) (h : Below wr.heap.size wr v) => ah.pure h); clear hx b6 bi bx ah ac q0 q1 q2 W q4 F q6 q7 q8 q9 cm cl; cases b7
   ·have hb0 := qq hb
    clear hb z1 bd; go_wp2_with fail; have hb := abn wr; refine wp_region_held_drew (S := fun u => Below wr.heap.size wr u) (by kernel_rfl) hb (fun E => ?_); refine tkH 0 E ?_; refine tkF 1 E ?_ (fun u Y => (hAA.out u Y).at 6 rfl); refine tkH 2 E ?_; refine tkH 3 E ?_; refine tkF 4 E ?_ (fun u Y => hcx.out u Y); refine aai 5 rfl (fun b3 hK => ?_); go_simp; go_at_call 107; have G := bep (PtT.mk q id (PT.mk key aw red mid (VT.mk uk un us (.slice aj aa.length ak) (.slice ag ul.length ai) aa ul)) al) P _ (b8.out _ hb) hqs.out; rw [b9.out, PtT.arg_mk] at G; refine G.mono ?_; rintro e wn ⟨rfl, bu⟩; clear G; have hb := hb.trans (bu.mono hb.size); refine hK.out _ _ hb (fun E => ?_); clear hK b3; (try simp only [Act.put, lsT, lsZ, lsS]); refine tkH 6 E ?_; refine tkH 7 E ?_; refine agu 8 113 rfl rfl E ?_; (try simp only [Act.put, lsT, lsZ, lsS]); refine agu 9 114 rfl rfl E ?_; (try simp only [Act.put, lsT, lsZ, lsS]); refine agu 10 115 rfl rfl E ?_; (try simp only [Act.put, lsT, lsZ, lsS]); refine agu 11 116 rfl rfl E ?_; (try simp only [Act.put, lsT, lsZ, lsS]); refine agu 12 117 rfl rfl E ?_; (try simp only [Act.put, lsT, lsZ, lsS]); refine agu 13 118 rfl rfl E ?_; (try simp only [Act.put, lsT, lsZ, lsS]); refine agu 14 119 rfl rfl E ?_; (try simp only [Act.put, lsT, lsZ, lsS]); refine agu 15 120 rfl rfl E ?_; (try simp only [Act.put, lsT, lsZ, lsS]); refine agu 16 121 rfl rfl E ?_; (try simp only [Act.put, lsT, lsZ, lsS]); refine agu 17 122 rfl rfl E ?_; (try simp only [Act.put, lsT, lsZ, lsS]); refine agu 18 123 rfl rfl E ?_; (try simp only [Act.put, lsT, lsZ, lsS]); refine tkH 19 E ?_; refine wpAnyH_done (by kernel_rfl) ?_ _; exact ber
   ·have hb0 := qq hb
    clear hb; have cp := qq z1; have cs := qq bd; clear z1 bd; go_wp2_with fail; have hb := abn wr; refine wp_region_held_drew (S := fun u => Below wr.heap.size wr u) (by kernel_rfl) hb (fun E => ?_); refine tkH 0 E ?_; refine tkF 1 E ?_ (fun u Y => (hAA.out u Y).at 6 rfl); refine tkH 2 E ?_; refine tkH 3 E ?_; refine tkF 4 E ?_ (fun u Y => hcx.out u Y); refine aai 5 rfl (fun b3 hK => ?_); go_simp; go_at_call 107; have G := bep (PtT.mk q id (PT.mk key aw red mid (VT.mk uk un us (.slice aj aa.length ak) (.slice ag ul.length ai) aa ul)) al) P _ (b8.out _ hb) hqs.out; rw [b9.out, PtT.arg_mk] at G; refine G.mono ?_; rintro e wn ⟨rfl, bu⟩; clear G; have hb := hb.trans (bu.mono hb.size); refine hK.out _ _ hb (fun E => ?_); clear hK b3; (try simp only [Act.put, lsT, lsZ, lsS]); refine tkH 6 E ?_; refine tkH 7 E ?_; refine tkH 8 E ?_; refine tkF 9 E ?_ (fun u Y => (hAA.out u Y).at 6 rfl); refine tkH 10 E ?_; refine tkH 11 E ?_; refine tkH 12 E ?_; refine tkF 13 E ?_ (fun u Y => hcx.out u Y); refine tkH 14 E ?_; refine tkH 15 E ?_; refine tkF 16 E ?_ (fun u Y => (hAA.out u Y).at 0 rfl); refine tkH 17 E ?_; refine tkH 18 E ?_; refine tkH 19 E ?_; refine wpAnyH_done (by kernel_rfl) ?_ _; have z9 := cp.out; have k9 := cs.out; simp only [z9, k9]; clear z9 k9; cases zb <;> cases kb <;> simp only [Bool.false_beq, Bool.true_beq, Bool.not_not, Bool.not_true, Bool.not_false]
    ·exact bff
    ·skip
     exact ber
    ·skip
     exact ber
    ·exact bff
  ·obtain rfl : k = A.length := by omega
   have ci := qq (show pb = true by rw [← hpbh.out]; have h := hall.out; rwa [js] at h); go_wp2_with fail; go_loopw [9] (fun s9 wr => ∃ k : Nat, k ≤ D.length ∧ s9 = .int .i64 (k : Int) ∧ Hid ((D.take k).all Rf.okB = true) ∧ Below W1.heap.size W1 wr) (fun s9 _ => D.length - (intOf s9).toNat)
   case atStart => exact ⟨0, by omega, rfl, qq (by simp), hb⟩
   case round =>
    clear hb hall ab a6; obtain ⟨k, hk, rfl, hall, hb⟩ := hrel; have ab := hAh.out _ hb; have a7 := ab.at 7 rfl; by_cases hlt : k < D.length
    ·have h1 : (k : Int) < (D.length : Int) := by omega
     have l1 : (D.length : Int) ≤ 100 := by have := b5.out; omega
     have ac : Slc abc 2 wr (.slice N D.length K) D := (b0.out _ hb).s; obtain ⟨U, off, rfl⟩ := ac.addrB hlt; obtain ⟨q, i, hx, e8, e9⟩ := ado ac hlt; have hqs := qq (show (q.size : Int) < 4611686018427387904 by have h := ck.out D[k] (qy hlt); rw [hx] at h; exact h); obtain ⟨qb, bw⟩ := qx (qn q); obtain ⟨ib, bn⟩ := qx (ah2 i); have hf2 := qq (show Rf.okB D[k] = (qb && ib) by rw [hx, ← bw, ← bn]; rfl); have hqbh := qq bw; have hibh := qq bn; have hAA := qq (fun (v : World) (h : Below wr.heap.size wr v) => ab.pure h)
     have hcx := qq (fun (v : World) (h : Below wr.heap.size wr v) => show v.cell? ⟨U, off + k * 2, none⟩ = some (.string q) ∧ v.cell? ⟨U, off + k * 2 + 1, none⟩ = some (.int .u64 i) from by
      have b2 : Slc abc 2 v (.slice (some ⟨U, off, none⟩) D.length K) D := ac.pure h; have G := fun j u (hu : (abc D[k])[j]? = some u) => b2.get k hlt j u hu
      rw [hx] at G
      exact ⟨G 0 _ rfl, G 1 _ rfl⟩)
     clear hx bw bn ac; cases qb
     ·exact bfl
     cases ib
     ·exact bfl
     have hall2 := qq (bf4 hlt hall.out (by rw [hf2.out]; rfl)); go_wp2_with (first | (go_at_call 105; (with_reducible refine (bcx _ q hqs.out).mono ?_); rintro e w2 ⟨he, hB2⟩; rw [hqbh.out] at he; subst he; have hb2 := hb.trans (hB2.mono hb.size); have A2 := hAA.out _ hB2; have m7 := A2.at 7 rfl; obtain ⟨x0, x1⟩ := hcx.out _ hB2) | (go_at_call 106; (with_reducible refine (bec _ i).mono ?_); rintro e w3 ⟨he, rfl⟩; rw [hibh.out] at he; subst he)); go_roundw
     case rel => exact ⟨k + 1, by omega, by go_num, hall2, hb2⟩
     case measure => simp [intOf]; omega
    ·obtain rfl : k = D.length := by omega
     have hf := qq (show e0.chk = 0 by rw [hchk.out, hok4.out, ci.out, show tb = true by rw [← htbh.out]; have h := hall.out; rwa [js] at h]; rfl); exact aet
end Go.Proofs.YtgnaifhmcllnlaaGreatDoor
