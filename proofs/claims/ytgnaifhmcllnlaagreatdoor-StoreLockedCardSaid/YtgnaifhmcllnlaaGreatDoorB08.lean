/- Maps from names of messages to numbers. Conditions: none. (Texts joined.) -/
import Derived.Test.YtgnaifhmcllnlaaGreatDoorB07
import Derived.WideKeyEntry
set_option maxRecDepth 100000
set_option maxHeartbeats 25600000
set_option linter.unusedSimpArgs false
set_option linter.unusedVariables false
namespace Go.Proofs.YtgnaifhmcllnlaaGreatDoor
open Go.RowKit Tryz
theorem bz (b : ByteArray) : (b == (⟨#[]⟩ : ByteArray)) = (b.size == 0) := by
 rw [beq_toListBytes]
 by_cases h : b.size = 0
 ·obtain rfl : b = ⟨#[]⟩ := af5 h
  rw [beq_self_eq_true]; rfl
 ·rw [ju.2 h, ju]
  intro e; exact h (by rw [← acr, e, acr]; rfl)
theorem xz (D : Int) (A E : ByteArray) : ((D, A, E) != ((0 : Int), (⟨#[]⟩ : ByteArray), (⟨#[]⟩ : ByteArray))) = !(D == 0 && A.size == 0 && E.size == 0) := by
 show (!(D == 0 && (A == ⟨#[]⟩ && E == ⟨#[]⟩))) = _
 rw [bz, bz, Bool.and_assoc]
theorem bdm (kind : Int) (D : ByteArray) (n F : Int) (E G : ByteArray) (I J : Value) (A : List PtT) (H : List Rf) :
 (EnT.mk kind D n (F, E, G) I J A H).e.okB = (!(us kind == 0) && ((if uN kind then qn D else D.size == 0) && ((if uM kind then ah2 n else n == 0) && ((if uX kind then Xn.okB (F, E, G) else (F == 0 && E.size == 0 && G.size == 0)) &&
  ((uW kind || (A.isEmpty && H.isEmpty)) && (EnT.mk kind D n (F, E, G) I J A H).wk))))) := by
 have K : (A.map PtT.p).isEmpty = A.isEmpty := by cases A <;> rfl
 unfold EnT.wk EnT.e En.okB
 simp only [jf, all_map, K, Bool.and_assoc]
theorem aet {P : Prop} (h : P := by
 go_wp2
 go_ret
 exact ⟨by rw [hf.out]; rfl, hB1.trans (hb.mono hsz.out)⟩) : P := h
theorem aju {P : Prop} (h : P := by
 have qch := qq qc
 clear qc
 go_wp2_with (go_at_call 53; (with_reducible refine (qch.out _).mono ?_); rintro e w2 ⟨rfl, hB2⟩; have hb2 := hb.trans (hB2.mono hb.size))
 go_meet
 exact ⟨rfl, hb2⟩) : P := h
theorem alp {P : Prop} (h : P := by
 go_wp2_with (go_at_call 80; refine (hw3.out).mono ?_; rintro e w3 ⟨rfl, hB3⟩; have hb3 := hb.trans (hB3.mono hb.size))
 go_ret
 exact ⟨by rw [hf.out]; rfl, hB1.trans (hb3.mono hsz.out)⟩) : P := h
theorem arl (t : EnT) (P : Nat → Prop) (w : World) (hR : EnRd P w t) (hT : Tb w) : Calls prog 27 #[t.arg] w fun e w' => e = .returned (.int .i64 t.e.chk) ∧ Below w.heap.size w w' := by
 obtain ⟨kind, G, n, I, H, J, N, M, K, O, D, E, rfl, bh, bd⟩ := hR.open
 have hB1 := (qz w.heap.size w).alloc (qj _) (.cells #[.int .u8 kind, .string G, .int .u64 n, .int .u32 I, .string H, .string J, .slice N D.length M, .slice K E.length O] 34)
 have A1 := Blk.new w [.int .u8 kind, .string G, .int .u64 n, .int .u32 I, .string H, .string J, .slice N D.length M, .slice K E.length O] 34
 have R1 := hR.pure hB1
 obtain ⟨wk, al⟩ := qx ((EnT.mk kind G n (I, H, J) (.slice N D.length M) (.slice K E.length O) D E).wk)
 have hw := fun (u : World) (R : EnRd P u (EnT.mk kind G n (I, H, J) (.slice N D.length M) (.slice K E.length O) D E)) (Z : Tb u) => aw0 (EnT.mk kind G n (I, H, J) (.slice N D.length M) (.slice K E.length O) D E) P u R Z
 simp only [al, EnT.arg_mk] at hw
 have bl := qq hw
 obtain ⟨c1, ae⟩ := qx (if uN kind then qn G else G.size == 0)
 obtain ⟨c2, af⟩ := qx (if uM kind then ah2 n else n == 0)
 obtain ⟨c3, ac⟩ := qx (if uX kind then Xn.okB (I, H, J) else (I == 0 && H.size == 0 && J.size == 0))
 obtain ⟨Y, ag⟩ := qx (uW kind || (D.isEmpty && E.isEmpty))
 obtain ⟨u, Z⟩ := qx (us kind)
 have ad := bdm kind G n I H J (.slice N D.length M) (.slice K E.length O) D E
 rw [al, ae, af, ac, ag, Z] at ad
 obtain ⟨b1, b2, b4, b8⟩ := bbs u (by rw [← Z]; exact bc8 kind)
 have hN : (u % 2 == 1) = uN kind := by rw [← Z]; rfl
 have hM : (u / 2 % 2 == 1) = uM kind := by rw [← Z]; rfl
 have hX : (u / 4 % 2 == 1) = uX kind := by rw [← Z]; rfl
 have hW : (u / 8 % 2 == 1) = uW kind := by rw [← Z]; rfl
 rw [hN] at b1; rw [hM] at b2; rw [hX] at b4; rw [hW] at b8
 obtain ⟨nb, ax⟩ := qx (uN kind)
 obtain ⟨mb, aw⟩ := qx (uM kind)
 obtain ⟨xB, ay⟩ := qx (uX kind)
 obtain ⟨wb, av⟩ := qx (uW kind)
 rw [ax] at ae b1; rw [aw] at af b2; rw [ay] at ac b4; rw [av] at ag b8
 have aj := awv (w.alloc (.cells #[.int .u8 kind, .string G, .int .u64 n, .int .u32 I, .string H, .string J, .slice N D.length M, .slice K E.length O] 34)) kind
 rw [Z] at aj
 have au := qq aj
 obtain ⟨ok, ah⟩ := qx ((EnT.mk kind G n (I, H, J) (.slice N D.length M) (.slice K E.length O) D E).e.okB)
 have aa := qq (show (EnT.mk kind G n (I, H, J) (.slice N D.length M) (.slice K E.length O) D E).e.chk = if ok then 0 else 130 by unfold En.chk; rw [ah])
 rw [ah] at ad
 have ar := qq ad
 have bk := qq ae; have bm := qq af; have bn := qq ac; have bb := qq ag
 have bc := qq b1; have bj := qq b2; have bg := qq b4; have bi := qq b8
 rw [EnT.arg_mk]
 clear hw al ae af ac ag Z ad b1 b2 b4 b8 hN hM hX hW ax aw ay av aj ah bh bd
 have ab := qq (fun (v : World) (h : Below (w.alloc (.cells #[.int .u8 kind, .string G, .int .u64 n, .int .u32 I, .string H, .string J, .slice N D.length M, .slice K E.length O] 34)).heap.size (w.alloc (.cells #[.int .u8 kind, .string G, .int .u64 n, .int .u32 I, .string H, .string J, .slice N D.length M, .slice K E.length O] 34)) v) => A1.pure h)
 have bf := qq (fun (v : World) (h : Below (w.alloc (.cells #[.int .u8 kind, .string G, .int .u64 n, .int .u32 I, .string H, .string J, .slice N D.length M, .slice K E.length O] 34)).heap.size (w.alloc (.cells #[.int .u8 kind, .string G, .int .u64 n, .int .u32 I, .string H, .string J, .slice N D.length M, .slice K E.length O] 34)) v) => R1.pure h)
 obtain ⟨a0, a1, a2, a3, a4, a5, a6, a7⟩ := A1.a8
 go_enter func27, ntmps27
 by_cases ak : u = 0
 ·subst ak
  have hf := qq (show (EnT.mk kind G n (I, H, J) (.slice N D.length M) (.slice K E.length O) D E).e.chk = 130 by rw [aa.out, ar.out]; rfl); go_wp2_with (go_at_call 77; refine (au.out).mono ?_; rintro e w2 ⟨rfl, rfl⟩); go_ret; exact ⟨by rw [hf.out]; rfl, hB1⟩
 have z1 : ((u : Int) == 0) = false := ju.2 (by omega)
 have z2 : ¬ (u : Int) = 0 := by omega
 have am := qq (show ok = (c1 && (c2 && (c3 && (Y && wk)))) by rw [ar.out, ju.2 ak]; rfl)
 clear ak
 go_upto_region 3 with (go_at_call 77; (with_reducible refine (au.out).mono ?_); rintro e w2 ⟨rfl, rfl⟩)
 have hb := qz (w.alloc (.cells #[.int .u8 kind, .string G, .int .u64 n, .int .u32 I, .string H, .string J, .slice N D.length M, .slice K E.length O] 34)).heap.size (w.alloc (.cells #[.int .u8 kind, .string G, .int .u64 n, .int .u32 I, .string H, .string J, .slice N D.length M, .slice K E.length O] 34))
 have hsz := qq (show w.heap.size ≤ (w.alloc (.cells #[.int .u8 kind, .string G, .int .u64 n, .int .u32 I, .string H, .string J, .slice N D.length M, .slice K E.length O] 34)).heap.size from hB1.size)
 generalize World.alloc w (.cells #[.int .u8 kind, .string G, .int .u64 n, .int .u32 I, .string H, .string J, .slice N D.length M, .slice K E.length O] 34) = W1 at *
 clear a0 a1 a2 a3 a4 a5 a6 a7 z1 z2
 go_cut [7] from 8 (fun s7 wx => s7 = .bool (!c1) ∧ Below W1.heap.size W1 wx)
 case first =>
  have A := ab.out _ hb; obtain ⟨a0, a1, a2, a3, a4, a5, a6, a7⟩ := A.a8; have q1 := bc.out; have W := aii q1; have F := bk.out; cases nb
  ·simp only [Bool.not_false] at W
   rw [qk (by simp)] at F; by_cases hz : G.size = 0
   ·obtain rfl : G = ⟨#[]⟩ := af5 hz
    obtain rfl : true = c1 := F; clear hz; go_wp2_with fail; go_meet; exact ⟨rfl, hb⟩
   ·obtain rfl : false = c1 := by rw [← F]; exact (ju.2 hz).symm
    have g1 : ¬ G.toList = [] := fun e => hz (by rw [← acr, e]; rfl)
    have g2 := aeg (show 0 < G.size by omega); clear hz F; go_wp2_with fail; go_meet; exact ⟨rfl, hb⟩
  ·simp only [Bool.not_true] at W
   rw [qw rfl] at F; have ai := qq F; clear F; cases c1
   all_goals
    go_wp2_with (go_at_call 78; (with_reducible refine (acx _ G).mono ?_); rintro e w2 ⟨he, hB2⟩; rw [ai.out] at he; subst he; have hb2 := hb.trans (hB2.mono hb.size)); go_meet; exact ⟨rfl, hb2⟩
 case rest =>
 obtain ⟨rfl, U⟩ := hcut
 have hb := U; clear U
 cases c1
 ·skip
  have hf := qq (show (EnT.mk kind G n (I, H, J) (.slice N D.length M) (.slice K E.length O) D E).e.chk = 130 by rw [aa.out, am.out]; rfl); exact aet
 have aq := qq (show ok = (c2 && (c3 && (Y && wk))) from am.out)
 go_upto_region 4 with fail
 go_cut [7] from 8 (fun s7 wx => s7 = .bool (!c2) ∧ Below W1.heap.size W1 wx)
 case first =>
  have A := ab.out _ hb; obtain ⟨a0, a1, a2, a3, a4, a5, a6, a7⟩ := A.a8; have q1 := bj.out; have W := aii q1; have F := bm.out; cases mb
  ·simp only [Bool.not_false] at W
   rw [qk (by simp)] at F; have q4 : (n != 0) = !c2 := by unfold bne; rw [F]
   cases c2
   ·simp only [Bool.not_false] at q4
    have q5 : ¬ n = 0 := bne_iff_ne.1 q4; clear F; go_wp2_with fail; go_meet; exact ⟨rfl, hb⟩
   ·obtain rfl : n = 0 := beq_iff_eq.1 F
    clear F q4; go_wp2_with fail; go_meet; exact ⟨rfl, hb⟩
  ·simp only [Bool.not_true] at W
   rw [qw rfl] at F; have ai := qq F; clear F; cases c2
   all_goals
    go_wp2_with (go_at_call 79; (with_reducible refine (agf _ n).mono ?_); rintro e w2 ⟨he, rfl⟩; rw [ai.out] at he; subst he); go_meet; exact ⟨rfl, hb⟩
 case rest =>
 obtain ⟨rfl, U⟩ := hcut
 have hb := U; clear U
 cases c2
 ·skip
  have hf := qq (show (EnT.mk kind G n (I, H, J) (.slice N D.length M) (.slice K E.length O) D E).e.chk = 130 by rw [aa.out, aq.out]; rfl); exact aet
 have an := qq (show ok = (c3 && (Y && wk)) from aq.out)
 go_upto_region 5 with fail
 go_cut [7] from 8 (fun s7 wx => s7 = .bool (!c3) ∧ Below W1.heap.size W1 wx)
 case first =>
  have A := ab.out _ hb; obtain ⟨a0, a1, a2, a3, a4, a5, a6, a7⟩ := A.a8; have q1 := bg.out; have W := aii q1; have F := bn.out; cases xB
  ·simp only [Bool.not_false] at W
   rw [qk (by simp)] at F; have qX := fun (v : World) => (azs v I 0 H J ⟨#[]⟩ ⟨#[]⟩).trans (by rw [xz, F])
   clear F; cases c3
   all_goals
    go_wp2_with fail; go_meet; exact ⟨rfl, hb⟩
  ·simp only [Bool.not_true] at W
   rw [qw rfl] at F; have qc := fun (v : World) => ayj v I H J
   simp only [F] at qc; clear F; cases c3
   ·simp only [Bool.false_eq_true, if_false] at qc
    exact aju
   ·simp only [if_true] at qc
    exact aju
 case rest =>
 obtain ⟨rfl, U⟩ := hcut
 have hb := U; clear U
 cases c3
 ·skip
  have hf := qq (show (EnT.mk kind G n (I, H, J) (.slice N D.length M) (.slice K E.length O) D E).e.chk = 130 by rw [aa.out, an.out]; rfl); exact aet
 have ao := qq (show ok = (Y && wk) from an.out)
 go_upto_region 6 with fail
 go_cut [7] from 8 (fun s7 wx => s7 = .bool (!Y) ∧ Below W1.heap.size W1 wx)
 case first =>
  have A := ab.out _ hb; obtain ⟨a0, a1, a2, a3, a4, a5, a6, a7⟩ := A.a8; have q1 := bi.out; have W := aii q1; have F := bb.out; cases wb
  ·simp only [Bool.not_false] at W
   rw [Bool.false_or] at F; by_cases hp : 0 < D.length
   ·have g1 : (0 : Int) < (D.length : Int) := by omega
    have g2 : decide ((0 : Int) < (D.length : Int)) = true := qp g1; have g3 : decide (0 < D.length) = true := qp hp; obtain rfl : false = Y := by rw [← F]; cases D with | nil => simp at hp | cons x l => rfl
    clear F hp; go_wp2_with fail; go_meet; exact ⟨rfl, hb⟩
   ·have g1 : ¬ (0 : Int) < (D.length : Int) := by omega
    have g2 : decide ((0 : Int) < (D.length : Int)) = false := qg g1; have g3 : decide (0 < D.length) = false := qg hp; have g4 : D.isEmpty = true := by cases D with | nil => rfl | cons x l => simp at hp
    rw [g4, Bool.true_and] at F; by_cases ht : 0 < E.length
    ·have g5 : (0 : Int) < (E.length : Int) := by omega
     have g6 : decide ((0 : Int) < (E.length : Int)) = true := qp g5; have g7 : decide (0 < E.length) = true := qp ht; obtain rfl : false = Y := by rw [← F]; cases E with | nil => simp at ht | cons x l => rfl
     clear F hp ht g4; go_wp2_with fail; go_meet; exact ⟨rfl, hb⟩
    ·have g5 : ¬ (0 : Int) < (E.length : Int) := by omega
     have g6 : decide ((0 : Int) < (E.length : Int)) = false := qg g5; have g7 : decide (0 < E.length) = false := qg ht; obtain rfl : true = Y := by rw [← F]; cases E with | nil => rfl | cons x l => simp at ht
     clear F hp ht g4; go_wp2_with fail; go_meet; exact ⟨rfl, hb⟩
  ·simp only [Bool.not_true] at W
   obtain rfl : true = Y := F; go_wp2_with fail; go_meet; exact ⟨rfl, hb⟩
 case rest =>
 obtain ⟨rfl, U⟩ := hcut
 have hb := U; clear U
 cases Y
 ·skip
  have hf := qq (show (EnT.mk kind G n (I, H, J) (.slice N D.length M) (.slice K E.length O) D E).e.chk = 130 by rw [aa.out, ao.out]; rfl); exact aet
 have ba := qq (show ok = wk from ao.out)
 go_upto_region 7 with fail
 have A := ab.out _ hb
 obtain ⟨a0, a1, a2, a3, a4, a5, a6, a7⟩ := A.a8
 have az := bl.out _ (bf.out _ hb) (hT.pure (hB1.trans (hb.mono hsz.out)))
 have hw3 := qq az
 have hf := qq (show (EnT.mk kind G n (I, H, J) (.slice N D.length M) (.slice K E.length O) D E).e.chk = if wk then 0 else 130 by rw [aa.out, ba.out])
 clear az
 cases wk
 ·exact alp
 ·exact alp
structure Pt.Fit (p : Pt) : Prop where
 q : p.q.size ≤ 255
 i0 : 0 ≤ p.id
 i1 : p.id < 18446744073709551616
 c : p.pr.chk = 0
 b : p.pr.bytes.length ≤ 8192
 d : p.body.size ≤ 4096
theorem Pt.fit {p : Pt} {num : Bool} (h : Pt.okB num p = true) (A : 0 ≤ p.id) (D : p.id < 18446744073709551616) : p.Fit := by
 unfold Pt.okB Pr.smallB at h
 simp only [jj, qm] at h
 exact ⟨by have := bbn h.1.1.1.1; omega, A, D, h.2.1, h.2.2, h.1.2⟩
theorem Pt.Fit.len {p : Pt} (h : p.Fit) : p.bytes.length ≤ 12700 := by
 have D := h.q; have A := h.b; have E := h.d
 unfold Pt.bytes
 simp only [jz, aao, bbo, acj]
 omega
theorem act {B vb : Nat} {w A D : World} (h : Below B w A) (G : Upd (acu vb) A D) (H : B ≤ vb) (E : B ≤ A.heap.size) : Below B w D :=
 h.trans (G.below E (fun k F => by unfold acu at F; omega))
theorem RdP.other {S : Nat → Prop} {w w' : World} {rb vb : Nat} (h : RdP w rb vb) (D : Upd S w w') (A : ¬ S rb) : RdP w' rb vb := ⟨h.1.upd D A, h.2⟩
theorem azu (n : Nat) (r : RS) : (tkR n r).1.length ≤ r.1.length := by unfold tkR; split <;> simp; omega
theorem bbv {P : Nat → Prop} {w : World} : Rd P w (VT.mk 0 0 ⟨#[]⟩ (.slice none 0 0) (.slice none 0 0) [] []) := Rd.leaf (by omega) (by omega) (by omega) (by omega)
theorem azv {L : List UInt8} {d r : Bool} {k : ByteArray} {A : RS} (h : pgA (L, false) = ((d, r, k), A)) (D : ¬ 0 < A.1.length) : pgP L = (⟨k, d, r, ⟨#[]⟩, V.zero⟩, A) := by
 unfold pgP; rw [h]; exact qk D
theorem aub {L : List UInt8} {d r : Bool} {k m : ByteArray} {v : V} {A D : RS} (h : pgA (L, false) = ((d, r, k), A)) (F : 0 < A.1.length) (E : pgB A = ((m, v), D)) : pgP L = (⟨k, d, r, m, v⟩, D) := by
 unfold pgP; rw [h]; refine (qw F).trans ?_; rw [E]
theorem bbw {L : List UInt8} {q : Pr} {A : RS} (h : pgP L = (q, A)) (D : A.2 = false) (F : q.chk = 0) (E : q.bytes = L) : pgO L = some q := by
 rw [bbj, h]; exact qw ⟨D, F, E⟩
theorem bbx {L : List UInt8} {q : Pr} {A : RS} (h : pgP L = (q, A)) (D : ¬ (A.2 = false ∧ q.chk = 0 ∧ q.bytes = L)) : pgO L = none := by
 rw [bbj, h]; exact qk D
def hp1 : Pr := ⟨⟨#[113]⟩, true, false, ⟨#[]⟩, V.zero⟩
def hp2 : Pr := ⟨⟨#[]⟩, false, true, ⟨#[]⟩, V.zero⟩
structure RdE (w : World) (tb rb vb : Nat) (r : RS) : Prop where
 b : Blk w tb [.pointer (some ⟨rb, 0, none⟩)]
 p : RdP w rb vb
 s : RdS w vb r.1 r.2
 v : vb < tb
 q : rb < tb
 l : Big r.1.length
theorem RdE.pure {w w' : World} {tb rb vb : Nat} {r : RS} (h : RdE w tb rb vb r) (A : Below w.heap.size w w') : RdE w' tb rb vb r := ⟨h.b.pure A, h.p.pure A, h.s.pure A, h.v, h.q, h.l⟩
theorem RdE.next {w w' : World} {tb rb vb : Nat} {r r' : RS} (h : RdE w tb rb vb r) (A : Upd (acu vb) w w') (hs : RdS w' vb r'.1 r'.2) (D : r'.1.length ≤ r.1.length) : RdE w' tb rb vb r' :=
 ⟨h.b.upd A (fun e => by have E := h.v; unfold acu at e; omega), h.p.upd A, hs, h.v, h.q, h.l.mono D⟩
theorem RdE.other {S : Nat → Prop} {w w' : World} {tb rb vb : Nat} {r : RS} (h : RdE w tb rb vb r) (D : Upd S w w') (A : ∀ k, S k → tb < k) : RdE w' tb rb vb r :=
 ⟨h.b.upd D (fun e => by have E := A _ e; omega), h.p.other D (fun e => by have E := A _ e; have F := h.q; omega), h.s.above D (fun k e => by have E := A _ e; have F := h.v; omega), h.v, h.q, h.l⟩
structure GSt (w0 : World) (tb sb rb vb : Nat) (s : ByteArray) (w : World) (lv : Value) (L : List PtT) (rr : RS) : Prop where
 e : RdE w tb rb vb rr
 b : Blk w sb [.string s]
 o : Own w0.heap.size 64 12 aat w lv L
 rd : ∀ x ∈ L, Rd (fun i => w0.heap.size ≤ i ∧ lv.ownBlock ≠ some i) w x.pr.app
 up : Upd (acu vb) w0 w
 tl : tb < w0.heap.size
 sl : sb < vb
theorem GSt.call {w0 w w' : World} {tb D rb vb : Nat} {s : ByteArray} {lv : Value} {L : List PtT} {F r' : RS} (h : GSt w0 tb D rb vb s w lv L F) (E : RdE w' tb rb vb r') (A : Upd (acu vb) w w') : GSt w0 tb D rb vb s w' lv L r' :=
 ⟨E, h.b.upd A (fun e => by have := h.sl; unfold acu at e; omega), h.o.upd A (fun i hi e => by have J := h.o.ge hi; have G := h.e.v; have H := h.tl; unfold acu at e; omega),
  fun x I => (h.rd x I).upd A (fun i hi e => by have J := hi.1; have G := h.e.v; have H := h.tl; unfold acu at e; omega), h.up.only2 A, h.tl, h.sl⟩
theorem GSt.app {w0 w w' : World} {tb K rb vb : Nat} {s : ByteArray} {lv : Value} {L : List PtT} {J : RS} {g E : Nat} {t : PtT} (h : GSt w0 tb K rb vb s w lv L J) (M : Own w0.heap.size 64 12 aat w' (.slice (some ⟨g, 0, none⟩) (L.length + 1) E) (L ++ [t])) (O : w.grownBy w' lv.ownBlock) (F : lv.ownBlock = some g ∨ g = w.heap.size)
 (N : Rd (fun i => w0.heap.size ≤ i ∧ lv.ownBlock ≠ some i) w t.pr.app) : GSt w0 tb K rb vb s w' (.slice (some ⟨g, 0, none⟩) (L.length + 1) E) (L ++ [t]) J := by
 have G : Upd (fun i => lv.ownBlock = some i) w w' := Upd.grown O (fun i e => e)
 have W := h.tl; have U := h.e.v; have Y := h.sl
 have H : ∀ x : VT, Rd (fun i => w0.heap.size ≤ i ∧ lv.ownBlock ≠ some i) w x → Rd (fun i => w0.heap.size ≤ i ∧ (Value.slice (some ⟨g, 0, none⟩) (L.length + 1) E).ownBlock ≠ some i) w' x := fun x A =>
  (A.weaken (Q := fun i => (w0.heap.size ≤ i ∧ (Value.slice (some ⟨g, 0, none⟩) (L.length + 1) E).ownBlock ≠ some i) ∧ lv.ownBlock ≠ some i) (fun i hi D => ⟨⟨D.1, fun e => by
   have e : some g = some i := e; rcases F with F | F
   ·exact D.2 (F.trans e)
   ·injection e with e; omega⟩, D.2⟩)).upd G (fun i hi e => hi.2 e) |>.weaken (fun i _ D => D.1)
 refine ⟨h.e.other G (fun k e => by have I := h.o.ge e; omega), h.b.upd G (fun e => by have I := h.o.ge e; omega), M, fun x A => ?_, h.up.trans G (fun i e hi => by have I := h.o.ge e; omega), h.tl, h.sl⟩
 rcases List.mem_append.1 A with A | A
 ·exact H _ (h.rd x A)
 ·rw [jc.1 A]; exact H _ N
theorem GSt.pure {w0 w w' : World} {tb E rb vb : Nat} {s : ByteArray} {lv : Value} {L : List PtT} {A : RS} (h : GSt w0 tb E rb vb s w lv L A) (D : Below w.heap.size w w') : GSt w0 tb E rb vb s w' lv L A := h.call (h.e.pure D) (Upd.of_below D)
structure HSt (w0 : World) (tb rb vb : Nat) (w : World) (lv : Value) (L : List Rf) (rr : RS) : Prop where
 e : RdE w tb rb vb rr
 o : Own w0.heap.size 68 2 abc w lv L
 up : Upd (acu vb) w0 w
 tl : tb < w0.heap.size
theorem HSt.call {w0 w w' : World} {tb rb vb : Nat} {lv : Value} {L : List Rf} {D r' : RS} (h : HSt w0 tb rb vb w lv L D) (E : RdE w' tb rb vb r') (A : Upd (acu vb) w w') : HSt w0 tb rb vb w' lv L r' :=
 ⟨E, h.o.upd A (fun i hi e => by have H := h.o.ge hi; have F := h.e.v; have G := h.tl; unfold acu at e; omega), h.up.only2 A, h.tl⟩
theorem HSt.app {w0 w w' : World} {tb rb vb : Nat} {lv : Value} {L : List Rf} {D : RS} {g A : Nat} {t : Rf} (h : HSt w0 tb rb vb w lv L D) (G : Own w0.heap.size 68 2 abc w' (.slice (some ⟨g, 0, none⟩) (L.length + 1) A) (L ++ [t])) (F : w.grownBy w' lv.ownBlock) (I : lv.ownBlock = some g ∨ g = w.heap.size) : HSt w0 tb rb vb w' (.slice (some ⟨g, 0, none⟩) (L.length + 1) A) (L ++ [t]) D := by
 have E : Upd (fun i => lv.ownBlock = some i) w w' := Upd.grown F (fun i e => e)
 have K := h.tl; have J := h.e.v
 exact ⟨h.e.other E (fun k e => by have H := h.o.ge e; omega), G, h.up.trans E (fun i e hi => by have H := h.o.ge e; omega), h.tl⟩
theorem HSt.pure {w0 w w' : World} {tb rb vb : Nat} {lv : Value} {L : List Rf} {A : RS} (h : HSt w0 tb rb vb w lv L A) (D : Below w.heap.size w w') : HSt w0 tb rb vb w' lv L A := h.call (h.e.pure D) (Upd.of_below D)
structure GP (w0 w : World) (tb pb rb vb : Nat) (s : ByteArray) (r : RS) (cs : List Value) : Prop where
 E : RdE w tb rb vb r
 S : Blk w w0.heap.size [.string s]
 Z : Blk w (w0.heap.size + 1) [.int .u8 0, .string ⟨#[]⟩, .int .u64 0, .int .u32 0, .string ⟨#[]⟩, .string ⟨#[]⟩, .slice none 0 0, .slice none 0 0]
 P : Blk w pb cs
 T : Below w0.heap.size w0 w
 o1 : w0.heap.size + 1 < vb
 o2 : tb < pb
section
variable {w0 w w' : World} {tb pb rb vb : Nat} {s : ByteArray} {r r' : RS} {cs : List Value}
theorem GP.callE (h : GP w0 w tb pb rb vb s r cs) (F : RdE w' tb rb vb r') (A : Upd (acu vb) w w') : GP w0 w' tb pb rb vb s r' cs :=
 ⟨F, h.S.upd A (fun e => by have D := h.o1; unfold acu at e; omega), h.Z.upd A (fun e => by have D := h.o1; unfold acu at e; omega), h.P.upd A (fun e => by have D := h.o2; have G := h.E.v; unfold acu at e; omega), act h.T A (by have D := h.o1; omega) h.T.size, h.o1, h.o2⟩
theorem GP.call (h : GP w0 w tb pb rb vb s r cs) (hs : RdS w' vb r'.1 r'.2) (A : Upd (acu vb) w w') (D : r'.1.length ≤ r.1.length) : GP w0 w' tb pb rb vb s r' cs := h.callE (h.E.next A hs D) A
theorem GP.pure (h : GP w0 w tb pb rb vb s r cs) (A : Below w.heap.size w w') : GP w0 w' tb pb rb vb s r cs :=
 ⟨h.E.pure A, h.S.pure A, h.Z.pure A, h.P.pure A, h.T.trans (A.mono h.T.size), h.o1, h.o2⟩
theorem GP.set (h : GP w0 w tb pb rb vb s r cs) (j : Nat) (v : Value) : GP w0 (w.setCell ⟨pb, j, none⟩ v) tb pb rb vb s r (cs.set j v) := by
 have A := Upd.set (S := fun k => k = pb) (w := w) (p := ⟨pb, j, none⟩) rfl v
 have D := h.o1; have F := h.o2; have G := h.E.v
 exact ⟨h.E.other A (fun k e => by omega), h.S.upd A (fun e => by omega), h.Z.upd A (fun e => by omega), h.P.set j v, h.T.trans (A.below h.T.size (fun i e => by omega)), D, F⟩
end
theorem aw3 (w : World) (v : Value) (L : List UInt8) (h : Slc aax 1 w v L) (U : Big L.length) (O : Tb w) (A : (ako L).isSome = true) : Calls prog 172 #[v] w fun e w' => ∃ (tk I : Int) (J : ByteArray) (H : Option Addr) (M : Nat) (K : Option Addr) (F : Nat) (D : List ByteArray) (E : List VT),
 e = .returned (.tuple #[.agg #[.int .u8 tk, .int .u64 I, .string J, .slice H D.length M, .slice K E.length F], .int .i64 (bdv (ako L)), .int .i64 (bdw (ako L))]) ∧ (VT.mk tk I J (.slice H D.length M) (.slice K E.length F) D E).v = ax6 (ako L) ∧
 Rd (fun i => w.heap.size ≤ i) w' (VT.mk tk I J (.slice H D.length M) (.slice K E.length F) D E) ∧ Below w.heap.size w w' := by
 rcases hr : rdP 6 200 L with _ | ⟨x, left, r⟩
 ·unfold ako at A; rw [hr] at A; simp at A
 ·by_cases G : x.chk = 0
  ·have N : ako L = some (x, L.length - r.length) := by unfold ako; rw [hr, Option.bind_some]; dsimp only; rw [qw G]
   rw [N]; exact (awu w v L h U O x left r hr G).mono fun e w' h => aov h
  ·unfold ako at A; rw [hr, Option.bind_some] at A; dsimp only at A; rw [qk G] at A; simp at A
def aw4 (b : List UInt8) : Prop :=
 let x := pgA (b, false)
 let f := nmR 2 (tkR 6 x.2).2
 let k := aoj (f.1 % 2 == 1) f.2
 0 < x.2.1.length → f.1 / 2 % 2 = 1 → (ako (tkR k.2.1.length k.2).1).isSome = true
theorem aue (p : Pr) (I : p.app.Wf) (h : p.chk = 0) : aw4 p.bytes := by
 unfold aw4 Pr.bytes
 rw [asl p (akr.1 h).1]
 dsimp only
 by_cases F : fl2 p = 0
 ·rw [qw F]
  intro H; simp at H
 ·rw [qk F]
  intro _; obtain ⟨G, a2, a3, a4, e, -⟩ := ae2 (stx p.id ++ (if p.app.kind = 168 then p.app.bytes else [])) 4 3 0 (UInt8.ofNat (fl2 p)) []; have J := asj p; unfold ahf; rw [List.append_assoc, ← List.append_nil (part _), e, List.append_nil, asi 6 [G, a2, a3, a4, 4, 3] _ rfl, ← amw (show fl2 p < 256 by omega), amv 2 _ (by omega)]; dsimp only; rw [agx p.id (akr.1 h).2.1 _ _ (ays p)]; dsimp only; intro A; have A := (ask p).1 A; rw [qw A]; have D := aoi p.app.bytes []; rw [List.append_nil] at D; rw [D]; have E := apz I (asn h A) []; rw [List.append_nil] at E; rw [E]; rfl
def bdy (b : List UInt8) : Prop := aw4 b ∧ pgO b ≠ none
theorem aw5 (p : Pr) (A : p.app.Wf) (h : p.chk = 0) : bdy p.bytes := ⟨aue p A h, by rw [amz A h (aoy p.bytes)]; simp⟩
theorem auf (w : World) (s : ByteArray) (hs : s.size ≤ 2000000) (hT : Tb w) (bl : bdy s.data.toList) : Calls prog 135 #[.string s] w (bd2 w (pgO s.data.toList)) := by
 obtain ⟨L, bh⟩ := qx s.data.toList
 have fh : L.length = s.size := by rw [← bh]; exact acj s
 have b5 : Big L.length := by unfold Big; omega
 have c3 := (qz w.heap.size w).alloc (qj _) (.cells #[.string ⟨#[]⟩, .bool false, .bool false, .string ⟨#[]⟩, .int .u8 0, .int .u64 0, .string ⟨#[]⟩, .slice none 0 0, .slice none 0 0] 58)
 have Z1 := Blk.new w [.string ⟨#[]⟩, .bool false, .bool false, .string ⟨#[]⟩, .int .u8 0, .int .u64 0, .string ⟨#[]⟩, .slice none 0 0, .slice none 0 0] 58
 obtain ⟨cc, W2, d0, bf, bi⟩ := aq4 (w.alloc (.cells #[.string ⟨#[]⟩, .bool false, .bool false, .string ⟨#[]⟩, .int .u8 0, .int .u64 0, .string ⟨#[]⟩, .slice none 0 0, .slice none 0 0] 58)) s (by omega)
 rw [bh] at bf bl ⊢
 rw [show (w.alloc (.cells #[.string ⟨#[]⟩, .bool false, .bool false, .string ⟨#[]⟩, .int .u8 0, .int .u64 0, .string ⟨#[]⟩, .slice none 0 0, .slice none 0 0] 58)).heap.size = w.heap.size + 1 by simp] at bf d0
 have Z2 := Z1.pure bi
 have b4 := c3.trans (bi.mono c3.size)
 have dr := qq bh
 obtain ⟨r1, bb⟩ := qx ((tkR 6 (L, false)).2)
 have ce : Big r1.1.length := b5.mono (by rw [← bb]; exact aya 6 (L, false))
 obtain ⟨⟨f, rF⟩, hF⟩ := qx (nmR 2 r1)
 have cy : Big rF.1.length := ce.mono (by have := ayb 2 r1; rw [hF] at this; exact this)
 have hf := ayc 2 r1
 rw [hF] at hf
 have hf : f < 65536 := hf
 obtain ⟨U, c4⟩ := qx (f % 2 == 1)
 obtain ⟨W, cb⟩ := qx (f / 2 % 2 == 1)
 obtain ⟨kb, c6⟩ := qx (f / 4 % 2 == 1)
 have a1 := bbk hf; have a2 := bbl hf; have a4 := bcz hf
 rw [c4] at a1; rw [cb] at a2; rw [c6] at a4
 obtain ⟨⟨key, I⟩, hK⟩ := qx (aoj kb rF)
 have dv : Big I.1.length := cy.mono (by have := asx kb rF; rw [hK] at this; exact this)
 have bd := qq (show pgA (L, false) = ((U, W, key), I) by unfold pgA; simp only [bb, hF, c4, cb, c6, hK])
 have eu := qq (show _ from by have A := bl.1; unfold aw4 at A; rw [bd.out] at A; exact A)
 have fp := qq bl.2
 clear bl
 have ey := qq bb; have ff := qq hF; have e9 := qq hK
 have dk := qq b5; have e6 := qq ce; have eq := qq cy; have dm := qq dv
 have zi := ajd
 clear bb hF hK b5 ce cy dv bh fh hs hf c4 cb c6
 go_enter func135, ntmps135
 go_upto_region 5 with (first | (go_at_call 167; refine (am2 _ _ L bf dk.out).mono ?_; rintro e J ⟨rb, vb, rfl, dc, dd, fv, fu, cf⟩; have Z3 := Z2.pure cf; have b7 := b4.trans (cf.mono b4.size); have E := qq (show w.heap.size < vb by have A := bi.size; simp at A; omega); have N := qq (show vb < J.heap.size from dd.lt); have av := ((qz J.heap.size J).alloc (qj _) (.cells #[.pointer (some ⟨rb, 0, none⟩)] 199)); have Z4 := Z3.pure av; have cu := dc.pure av; have ek := dd.pure av; have cm := b7.trans ((av).mono b7.size); have T4 := Blk.new J [.pointer (some ⟨rb, 0, none⟩)] 199; have t0 := T4.at 0 rfl) | (go_at_call 168; refine (al7 _ rb vb (L, false) 6 cu ek dk.out).mono ?_; rintro e w5 ⟨v5, rfl, -, -, cl, aw⟩; rw [ey.out] at cl; have Z5 := Z4.upd aw (fun e => by have A := E.out; have D : w.heap.size = vb := e; omega); have T5 := T4.upd aw (fun e => by have A := N.out; have D : J.heap.size = vb := e; omega); have b2 := cu.upd aw; have ct := act cm aw (by have A := E.out; omega) cm.size; have t1 := T5.at 0 rfl) | (go_at_call 169; refine (asy _ rb vb r1 2 b2 cl (by unfold Wd; omega) e6.out).mono ?_; rintro e w6 ⟨Z, cn, ax⟩; simp only [ff.out] at Z cn; subst Z; have Z6 := Z5.upd ax (fun e => by have A := E.out; have D : w.heap.size = vb := e; omega); have T6 := T5.upd ax (fun e => by have A := N.out; have D : J.heap.size = vb := e; omega); have c2 := b2.upd ax; have cz := act ct ax (by have A := E.out; omega) ct.size; have t2 := T6.at 0 rfl) | (go_at_call 170; refine (ajk _ rb vb rF kb c2 cn eq.out).mono ?_; rintro e H ⟨Z, bg, az⟩; simp only [e9.out] at Z bg; subst Z; have Z7 := Z6.upd az (fun e => by have A := E.out; have D : w.heap.size = vb := e; omega); have T7 := T6.upd az (fun e => by have A := N.out; have D : J.heap.size = vb := e; omega); have eg := c2.upd az; have ca := act cz az (by have A := E.out; omega) cz.size; have aj := ((qz H.heap.size H).alloc (qj _) (.cells #[.string key, .bool U, .bool W, .string ⟨#[]⟩, .int .u8 0, .int .u64 0, .string ⟨#[]⟩, .slice none 0 0, .slice none 0 0] 58)); have Z8 := Z7.pure aj; have al := eg.pure aj; have ay := bg.pure aj; have aq := ca.trans ((aj).mono ca.size); have T8 := T7.pure aj; have P8 := Blk.new H [.string key, .bool U, .bool W, .string ⟨#[]⟩, .int .u8 0, .int .u64 0, .string ⟨#[]⟩, .slice none 0 0, .slice none 0 0] 58; have G := qq (show vb < H.heap.size from bg.lt); have aa := qq (show J.heap.size < H.heap.size from T7.lt); have t3 := T8.at 0 rfl))
 clear t0 t1 t2 t3 a1 a2 a4 d0 aw ax az dd ek cl cn bg av aj
 have ab := qq (show rb < J.heap.size from dc.1.lt)
 generalize World.alloc H (.cells #[.string key, .bool U, .bool W, .string ⟨#[]⟩, .int .u8 0, .int .u64 0, .string ⟨#[]⟩, .slice none 0 0, .slice none 0 0] 58) = W8 at *
 have t3 := T8.at 0 rfl
 clear Z3 Z4 Z5 Z6 Z7 dc cu b2 c2 eg T4 T5 T6 T7 b7 cm ct cz ca cf b4 bi Z1 Z2 c3 bf
 go_upto_if 35 with (go_at_call 171; (with_reducible refine (aeh _ rb vb I.1 I.2 al ay).mono ?_); rintro e _ ⟨rfl, rfl⟩)
 clear t3
 go_cut [7] from 35 to 62 (fun s7 wx => ∃ (mid : ByteArray) (tk tn : Int) (ts : ByteArray) (ka : Option Addr) (kc : Nat) (la : Option Addr) (lc : Nat) (K : List ByteArray) (M : List VT) (rz : RS), Blk wx w.heap.size [.string ⟨#[]⟩, .bool false, .bool false, .string ⟨#[]⟩, .int .u8 0, .int .u64 0, .string ⟨#[]⟩, .slice none 0 0, .slice none 0 0] ∧ Blk wx J.heap.size [.pointer (some ⟨rb, 0, none⟩)] ∧ Blk wx H.heap.size [.string key, .bool U, .bool W, .string mid, .int .u8 tk, .int .u64 tn, .string ts, .slice ka K.length kc, .slice la M.length lc] ∧ RdP wx rb vb ∧ RdS wx vb rz.1 rz.2 ∧ Below w.heap.size w wx ∧ Rd (fun i => w.heap.size < i) wx (VT.mk tk tn ts (.slice ka K.length kc) (.slice la M.length lc) K M) ∧ Hid (pgP L = (⟨key, U, W, mid, (VT.mk tk tn ts (.slice ka K.length kc) (.slice la M.length lc) K M).v⟩, rz)))
 case rest =>
  clear Z8 T8 P8 al ay aq; obtain ⟨mid, tk, tn, ts, ka, kc, la, lc, K, M, rz, fl, fo, dx, e4, e2, bx, d9, ae⟩ := hcut; obtain ⟨q, hq⟩ := qx ((PT.mk key U W mid (VT.mk tk tn ts (.slice ka K.length kc) (.slice la M.length lc) K M)).p); have d7 := qq (show pgP L = (q, rz) by rw [← hq]; exact ae.out); have br := ajj (PT.mk key U W mid (VT.mk tk tn ts (.slice ka K.length kc) (.slice la M.length lc) K M)) (fun i => w.heap.size < i) wc d9 (hT.pure bx); obtain ⟨cx, c7⟩ := qx q.chk; obtain ⟨tx, cr⟩ := qx (if cx = 0 then q.text else (⟨#[]⟩ : ByteArray)); rw [hq, c7, cr, PT.arg_mk] at br; have em := qq br; have fi := qq hq; have b1 := qq c7; have dj := qq cr; clear br hq c7 cr; obtain ⟨fq, fm⟩ := rz; obtain ⟨p0, p1, p2, p3, p4, p5, p6, p7, p8⟩ := dx.a9; have cp : fm = false ∧ cx = 0 ∧ tx = s := Classical.byContradiction (fun cp => fp.out (bbx d7.out (fun e => cp ⟨e.1, b1.out.symm.trans e.2.1, by have A := dj.out; rw [qw (b1.out.symm.trans e.2.1)] at A; rw [← A]; exact ati.2 (e.2.2.trans dr.out.symm)⟩))); obtain ⟨rfl, rfl, rfl⟩ := cp; have au : pgO L = some q := bbw d7.out rfl b1.out (by have A := dj.out; rw [qw rfl] at A; exact (ati.1 A).trans dr.out); have e5 := qq au; clear au; go_wp2_with (first | (go_at_call 134; refine (em.out).mono ?_; rintro e fj ⟨rfl, ad⟩; have b3 := fl.pure ad; have fd := fo.pure ad; have fb := dx.pure ad; have e1 := e4.pure ad; have ez := e2.pure ad; have dl := bx.trans (ad.mono bx.size); clear p0 p1 p2 p3 p4 p5 p6 p7 p8; obtain ⟨p0, p1, p2, p3, p4, p5, p6, p7, p8⟩ := fb.a9; obtain ⟨z0, z1, z2, z3, z4, z5, z6, z7, z8⟩ := b3.a9; obtain ⟨y0, y1, y2, y3, y4, y5, y6, y7, y8⟩ := b3.f9; have tt := fd.at 0 rfl; have fa := (d9).pure ad) | (go_at_call 173; (with_reducible refine (aei _ rb vb fq _ e1 ez).mono ?_); rintro e _ ⟨rfl, rfl⟩)); have au := e5.out; have hv := Upd.at9 fj w.heap.size (.string key) (.bool U) (.bool W) (.string mid) (.int .u8 tk) (.int .u64 tn) (.string ts) (.slice ka K.length kc) (.slice la M.length lc); have K9 := b3.fresh9 (.string key) (.bool U) (.bool W) (.string mid) (.int .u8 tk) (.int .u64 tn) (.string ts) (.slice ka K.length kc) (.slice la M.length lc); have R9 := fa.upd hv (fun b hb e => by omega); unfold bcj at hv K9 R9; obtain ⟨k0, k1, k2, k3, k4, k5, k6, k7, k8⟩ := K9.a9; refine bodyPost_ret (by simp [results, Tryz.results135, go_sem, k0, k1, k2, k3, k4, k5, k6, k7, k8]; rfl) rfl ?_; have fe := dl.trans (hv.below dl.size (fun i e => by omega)); exact ⟨PT.mk key U W mid (VT.mk tk tn ts (.slice ka K.length kc) (.slice la M.length lc) K M), by rw [au]; rfl, by rw [au]; exact fi.out, R9.weaken (fun i _ hi => Nat.le_of_lt hi), fe⟩
 have t3 := T8.at 0 rfl
 by_cases h0 : 0 < I.1.length
 rotate_left 1
 ·have b0 : decide ((0 : Int) < (I.1.length : Int)) = false := qg (by omega)
  have b9 : ¬ (0 : Int) < (I.1.length : Int) := by omega
  have ae := qq (azv bd.out h0); clear h0; go_wp2_with fail; go_meet; exact ⟨⟨#[]⟩, 0, 0, ⟨#[]⟩, none, 0, none, 0, [], [], I, Z8, T8, P8, al, ay, aq, bbv, ae⟩
 have b0 : decide ((0 : Int) < (I.1.length : Int)) = true := qp (by omega)
 have b9 : (0 : Int) < (I.1.length : Int) := by omega
 have cv := qq h0
 clear h0
 obtain ⟨r2, ar⟩ := qx ((tkR 6 I).2)
 have ck : Big r2.1.length := dm.out.mono (by rw [← ar]; exact aya 6 I)
 obtain ⟨⟨g, rG⟩, hG⟩ := qx (nmR 2 r2)
 have c1 : Big rG.1.length := ck.mono (by have := ayb 2 r2; rw [hG] at this; exact this)
 have hg := ayc 2 r2
 rw [hG] at hg
 have hg : g < 65536 := hg
 obtain ⟨ib, ba⟩ := qx (g % 2 == 1)
 obtain ⟨jb, ci⟩ := qx (g / 2 % 2 == 1)
 have a1 := bbk hg; have a2 := bbl hg
 rw [ba] at a1; rw [ci] at a2
 obtain ⟨⟨mid, F⟩, hM⟩ := qx (aoj ib rG)
 have dy : Big F.1.length := c1.mono (by have := asx ib rG; rw [hM] at this; exact this)
 have ei := qq (show pgB I = if g / 2 % 2 = 1 then ((mid, ax6 (ako (tkR F.1.length F).1)), (tkR F.1.length F).2) else ((mid, V.zero), F) by unfold pgB; simp only [ar, hG, ba, hM])
 have e3 := qq (show g / 2 % 2 = 1 → (ako (tkR F.1.length F).1).isSome = true by have A := eu.out cv.out; simp only [ar, hG, ba, hM] at A; exact A)
 have ex := qq ar; have e8 := qq hG; have fr := qq hM; have cq := qq ci
 have es := qq ck; have e7 := qq c1; have dg := qq dy
 clear ar hG hM ck c1 dy hg ba ci
 go_upto_region 9 with (first | (go_at_call 168; refine (al7 _ rb vb I 6 al ay dm.out).mono ?_; rintro e w9 ⟨v9, rfl, -, -, cg, am⟩; rw [ex.out] at cg; have Z9 := Z8.upd am (fun e => by have A := E.out; have D : w.heap.size = vb := e; omega); have T9 := T8.upd am (fun e => by have A := N.out; have D : J.heap.size = vb := e; omega); have P9 := P8.upd am (fun e => by have A := G.out; have D : H.heap.size = vb := e; omega); have c5 := al.upd am; have cj := act aq am (by have A := E.out; omega) aq.size; have t4 := T9.at 0 rfl) | (go_at_call 169; refine (asy _ rb vb r2 2 c5 cg (by unfold Wd; omega) es.out).mono ?_; rintro e fx ⟨Z, bm, ag⟩; simp only [e8.out] at Z bm; subst Z; have d2 := Z9.upd ag (fun e => by have A := E.out; have D : w.heap.size = vb := e; omega); have b8 := T9.upd ag (fun e => by have A := N.out; have D : J.heap.size = vb := e; omega); have ed := P9.upd ag (fun e => by have A := G.out; have D : H.heap.size = vb := e; omega); have bw := c5.upd ag; have bu := act cj ag (by have A := E.out; omega) cj.size; have t5 := b8.at 0 rfl) | (go_at_call 170; refine (ajk _ rb vb rG ib bw bm e7.out).mono ?_; rintro e dz ⟨Z, bn, ai⟩; simp only [fr.out] at Z bn; subst Z; have d1 := d2.upd ai (fun e => by have A := E.out; have D : w.heap.size = vb := e; omega); have d4 := b8.upd ai (fun e => by have A := N.out; have D : J.heap.size = vb := e; omega); have bc := ed.upd ai (fun e => by have A := G.out; have D : H.heap.size = vb := e; omega); have de := bw.upd ai; have bq := act bu ai (by have A := E.out; omega) bu.size; have p3 := bc.at 3 rfl; have y3 := bc.frozen 3))
 have an := Upd.set (S := fun k => k = H.heap.size) (w := dz) (p := ⟨H.heap.size, 3, none⟩) rfl (.string mid)
 have bj := bc.set 3 (.string mid)
 have d6 := d1.upd an (fun e => by have A := G.out; have D := aa.out; have h3 := ab.out; have h4 := E.out; have h5 := N.out; omega); have ec := d4.upd an (fun e => by have A := G.out; have D := aa.out; have h3 := ab.out; have h4 := E.out; have h5 := N.out; omega); have di := de.other an (fun e => by have A := G.out; have D := aa.out; have h3 := ab.out; have h4 := E.out; have h5 := N.out; omega); have dq := bn.above an (fun k e => by have A := G.out; have D := aa.out; have h3 := ab.out; have h4 := E.out; omega); have bo := bq.trans (an.below bq.size (fun i e => by have A := G.out; have h4 := E.out; omega))
 have bj : Blk _ H.heap.size [.string key, .bool U, .bool W, .string mid, .int .u8 0, .int .u64 0, .string ⟨#[]⟩, .slice none 0 0, .slice none 0 0] := bj
 generalize World.setCell dz _ _ = W12 at *
 clear p3 y3 t3 t4 t5 am ag ai ay cg bm bn Z8 Z9 d2 d1 T8 T9 b8 d4 P8 P9 ed bc al c5 bw de aq cj bu bq
 cases jb
 ·have c0 := qq (ei.out.trans (qk (fun e => by have A := cq.out; rw [e] at A; exact jp A (by decide))))
  have ae := qq (aub bd.out cv.out c0.out); go_wp2_with fail; go_meet; exact ⟨mid, 0, 0, ⟨#[]⟩, none, 0, none, 0, [], [], F, d6, ec, bj, di, dq, bo, bbv, ae⟩
 obtain ⟨⟨bk, rT⟩, a0⟩ := qx (tkR F.1.length F)
 have c0 := qq (show pgB I = ((mid, ax6 (ako bk)), rT) from (ei.out.trans (qw (by have A := cq.out; exact beq_iff_eq.1 A))).trans (by rw [a0]))
 have ae := qq (aub bd.out cv.out c0.out)
 have fg := qq (show Big bk.length from dg.out.mono (by have := azu F.1.length F; rw [a0] at this; exact this))
 have er := qq (show (ako bk).isSome = true by have A := e3.out (by have A := cq.out; exact beq_iff_eq.1 A); rw [a0] at A; exact A)
 have eo := qq a0
 clear a0
 go_upto_region 10 with fail
 have ak := abn W12
 have ft := d6.pure ak; have bp := di.pure ak; have dp := dq.pure ak; have du := bo.trans ((ak).mono bo.size); have ee := ec.pure ak; have fc := bj.pure ak
 have ea := ee.at 0 rfl
 have hb := ea
 refine wp_region_held_drew (S := fun u => u.cell? ⟨J.heap.size, 0, none⟩ = some (.pointer (some ⟨rb, 0, none⟩))) (by kernel_rfl) hb (fun O => ?_)
 refine tkH 0 O ?_
 refine tkF 1 O ?_ (fun u da => da)
 refine tkH 2 O ?_
 refine tkF 3 O ?_ (fun u da => da)
 refine aai 4 rfl (fun af hK => ?_)
 go_simp
 go_at_call 171
 (with_reducible refine (aeh _ rb vb F.1 F.2 bp dp).mono ?_)
 rintro e _ ⟨rfl, rfl⟩
 refine hK.out _ _ hb (fun O => ?_)
 clear hK af
 (try simp only [Act.put, lsT, lsZ, lsS])
 refine aai 5 rfl (fun af hK => ?_)
 go_simp
 go_at_call 168
 refine (al7 _ rb vb F F.1.length bp dp dg.out).mono ?_
 rintro e fy ⟨fw, rfl, d5, -, dn, ao⟩
 rw [eo.out] at d5 dn
 have fs := ft.upd ao (fun e => by have A := E.out; have D : w.heap.size = vb := e; omega); have ef := ee.upd ao (fun e => by have A := N.out; have D : J.heap.size = vb := e; omega); have b6 := fc.upd ao (fun e => by have A := G.out; have D : H.heap.size = vb := e; omega); have e0 := bp.upd ao; have bt := act du ao (by have A := E.out; omega) du.size
 have hb := ef.at 0 rfl
 refine hK.out _ _ hb (fun O => ?_)
 clear hK af
 (try simp only [Act.put, lsT, lsZ, lsS])
 refine aai 6 rfl (fun af hK => ?_)
 go_simp
 go_at_call 172
 refine (aw3 _ _ bk d5 fg.out (hT.pure bt) er.out).mono ?_
 rintro e ej ⟨uk, un, us, c8, c9, cw, ch, co, ul, rfl, eh, fk, ah⟩
 have et := qq eh; clear eh
 have fn := fs.pure ah; have ew := e0.pure ah; have ep := dn.pure ah; have df := bt.trans ((ah).mono bt.size); have d3 := ef.pure ah; have Y := b6.pure ah
 have hb := d3.at 0 rfl
 have p4 := Y.at 4 rfl; have p5 := Y.at 5 rfl; have p6 := Y.at 6 rfl; have p7 := Y.at 7 rfl; have p8 := Y.at 8 rfl; have y4 := Y.frozen 4; have y5 := Y.frozen 5; have y6 := Y.frozen 6; have y7 := Y.frozen 7; have y8 := Y.frozen 8
 refine hK.out _ _ hb (fun O => ?_)
 clear hK af
 (try simp only [Act.put, lsT, lsZ, lsS])
 refine tkH 7 O ?_
 refine tkH 8 O ?_
 refine tkH 9 O ?_
 refine tkH 10 O ?_
 refine tkH 11 O ?_
 refine aai 12 rfl (fun af hK => ?_)
 go_simp
 have ac := Upd.app9 ej H.heap.size (.int .u8 uk) (.int .u64 un) (.string us) (.slice c8 co.length c9) (.slice cw ul.length ch)
 have dw := Y.app9 (.int .u8 uk) (.int .u64 un) (.string us) (.slice c8 co.length c9) (.slice cw ul.length ch)
 have el := fn.upd ac (fun e => by have A := G.out; have D := aa.out; have h3 := ab.out; have h4 := E.out; have h5 := N.out; omega); have cd := d3.upd ac (fun e => by have A := G.out; have D := aa.out; have h3 := ab.out; have h4 := E.out; have h5 := N.out; omega); have dt := ew.other ac (fun e => by have A := G.out; have D := aa.out; have h3 := ab.out; have h4 := E.out; have h5 := N.out; omega); have dh := ep.above ac (fun k e => by have A := G.out; have D := aa.out; have h3 := ab.out; have h4 := E.out; omega); have ds := df.trans (ac.below df.size (fun i e => by have A := G.out; have h4 := E.out; omega))
 have d8 := (fk.upd ac (fun b hb e => by have A := b6.lt; omega)).weaken (fun i _ hi => (show w.heap.size < i by have A := b6.lt; have D := G.out; have h3 := E.out; omega))
 unfold ap8 at ac dw el cd dt dh ds d8
 have hb := cd.at 0 rfl
 refine hK.out _ _ hb (fun O => ?_)
 clear hK af
 (try simp only [Act.put, lsT, lsZ, lsS])
 refine wpAnyH_done (by kernel_rfl) ?_ _
 clear hb
 generalize World.setCell (World.setCell (World.setCell (World.setCell (World.setCell ej _ _) _ _) _ _) _ _) _ _ = W16 at *
 clear p4 p5 p6 p7 p8 y4 y5 y6 y7 y8 ea
 go_wp2_with fail
 go_meet
 exact ⟨mid, uk, un, us, c8, c9, cw, ch, co, ul, rT, el, cd, dw, dt, dh, ds, d8, qq (by rw [ae.out, et.out])⟩
theorem ac9 {E : Type} {enc : E → List Value} {m bytes base : Nat} {P : Program} {w : World} {D : Array Oper} {A : List Oper} {o : Oper} {a : Act} {Q : Exit → Act → World → Prop}
 (hgd : o.guard = none) (s x : Operand) (t e : TypeId) (ho : o.op = .call { callee := .builtin .append, args := #[s, x], argTypes := #[t, t] })
 (hE : ElemT P t e m bytes) (hm : ∀ x, (enc x).length = m)
 (v : Value) (L : List E) (hs : a.eval s = v) (hown : Own base e m enc w v L)
 (y : Value) (L2 : List E) (G : ∀ x ∈ L2, ∀ u ∈ enc x, u.oneCell' = true) (hx : a.eval x = y) (H : Slc enc m w y L2)
 (hlen : (L.length + L2.length) ≤ maxLen) (hbytes : (L.length + L2.length) * bytes ≤ 140737488355328) (hbase : base ≤ w.heap.size)
 (h : ∀ v' w', Own base e m enc w' v' (L ++ L2) → w.grownBy w' v.ownBlock → (v'.ownBlock = v.ownBlock ∨ v'.ownBlock = some w.heap.size) →
  (v' = .slice none 0 0 ∨ ∃ g cap, v' = .slice (some ⟨g, 0, none⟩) (L.length + L2.length) cap) → wpList P D Q A (a.put o.dst v') w') :
 wpList P D Q (o :: A) a w := by
 obtain ⟨i, z, hi, hz, hsize, hby, hzs⟩ := hE.ex
 have hL2 : (L2.flatMap enc).length = L2.length * m := abp hm L2
 have key : ∀ v' w', w'.ownsRow base e m v' (L.length + L2.length) (L.flatMap enc ++ L2.flatMap enc) → w.grownBy w' v.ownBlock → (v'.ownBlock = v.ownBlock ∨ v'.ownBlock = some w.heap.size) → wpList P D Q A (a.put o.dst v') w' := by
  exact aiy
 have nilcase : y = .slice none 0 0 → L2 = [] → wpList P D Q (o :: A) a w := by
  exact ak5
 rcases H with ⟨ya, cap, rfl, I, rfl⟩ | ⟨g, off, cap, rfl, J, M, hcell⟩
 ·exact am0
 ·refine wpList_append_own_at w hgd s x t ho base e i z m bytes hE.ht hi hz hsize hby hzs hE.pos v L.length (L.flatMap enc) hs hown ⟨g, off, none⟩ L2.length cap (L2.flatMap enc) hx hL2 ?_ ?_ hlen hbytes hbase ?_
  ·exact aix
  ·intro u hu
   obtain ⟨y, F, hy⟩ := List.mem_flatMap.1 hu; exact G y F u hy
  ·intro v' w' h1 h2 _ h4
   exact key v' w' h1 h2 h4
theorem azw {base : Nat} {w : World} {g n c : Nat} {L : List VT} (h : Own base 56 5 ac6 w (.slice (some ⟨g, 0, none⟩) n c) L) (i : Nat) (hi : i < L.length) (t : VT) :
 Own base 56 5 ac6 (((((w.setCell ⟨g, i * 5, none⟩ (.int .u8 t.k)).setCell ⟨g, i * 5 + 1, none⟩ (.int .u64 t.n)).setCell ⟨g, i * 5 + 2, none⟩ (.string t.s)).setCell ⟨g, i * 5 + 3, none⟩ t.kv).setCell ⟨g, i * 5 + 4, none⟩ t.lv) (.slice (some ⟨g, 0, none⟩) n c) (L.set i t) := by
 have E := h.set aak i hi 0 (.int .u8 t.k) (.mk t.k L[i].n L[i].s L[i].kv L[i].lv L[i].ks L[i].l) (by omega) rfl
 have A := E.set aak i (by simpa using hi) 1 (.int .u64 t.n) (.mk t.k t.n L[i].s L[i].kv L[i].lv L[i].ks L[i].l) (by omega) (by rw [List.getElem_set_self]; rfl)
 have F := A.set aak i (by simpa using hi) 2 (.string t.s) (.mk t.k t.n t.s L[i].kv L[i].lv L[i].ks L[i].l) (by omega) (by rw [List.getElem_set_self]; rfl)
 have G := F.set aak i (by simpa using hi) 3 t.kv (.mk t.k t.n t.s t.kv L[i].lv L[i].ks L[i].l) (by omega) (by rw [List.getElem_set_self]; rfl)
 have D := G.set aak i (by simpa using hi) 4 t.lv t (by omega) (by rw [List.getElem_set_self]; rfl)
 simpa only [List.set_set, Nat.add_zero] using D
theorem azx (w : World) (g b : Nat) (D E G F A : Value) : Upd (fun i => i = g) w (((((w.setCell ⟨g, b, none⟩ D).setCell ⟨g, b + 1, none⟩ E).setCell ⟨g, b + 2, none⟩ G).setCell ⟨g, b + 3, none⟩ F).setCell ⟨g, b + 4, none⟩ A) := by
 have s := fun (u : World) (i : Nat) (v : Value) => Upd.set (S := fun k => k = g) (w := u) (p := ⟨g, i, none⟩) rfl v
 exact af7
structure OwSt (w0 : World) (X : Nat) (B k : Nat) (tk n : Int) (s : ByteArray) (w : World) (kv lv : Value) (ks : List ByteArray) (l L : List VT) : Prop where
 x : Blk w X [.int .u8 tk, .int .u64 n, .string s, kv, lv]
 ko : Own w0.heap.size 9 1 abv w kv ks
 lo : Own w0.heap.size 56 5 ac6 w lv L
 len : L.length = l.length
 old : ∀ j, (h : j < l.length) → (h' : j < L.length) → k ≤ j → L[j] = l[j]
 new : ∀ j, (h : j < l.length) → (h' : j < L.length) → j < k → L[j].v = l[j].v ∧ Rd (MP w0.heap.size kv lv) w L[j]
 up : Upd (acu X) w0 w
 xl : X < w0.heap.size
section
variable {w0 w w' : World} {X B k : Nat} {tk n : Int} {s : ByteArray} {kv lv : Value} {ks : List ByteArray} {l L : List VT}
theorem OwSt.pure (h : OwSt w0 X B k tk n s w kv lv ks l L) (A : Below w.heap.size w w') : OwSt w0 X B k tk n s w' kv lv ks l L :=
 ⟨h.x.pure A, h.ko.pure A, h.lo.pure A, h.len, h.old, fun j E D F => ⟨(h.new j E D F).1, (h.new j E D F).2.pure A⟩, h.up.trans (Upd.of_below (S := fun _ => False) A) (fun _ e _ => e.elim), h.xl⟩
theorem OwSt.row {g c : Nat} {t : VT} {N : Nat} (h : OwSt w0 X B k tk n s w kv (.slice (some ⟨g, 0, none⟩) N c) ks l L) (K : k < l.length) (O : Rd (MP w0.heap.size kv (.slice (some ⟨g, 0, none⟩) N c)) w t) (M : t.v = l[k].v) :
 OwSt w0 X B (k + 1) tk n s (((((w.setCell ⟨g, k * 5, none⟩ (.int .u8 t.k)).setCell ⟨g, k * 5 + 1, none⟩ (.int .u64 t.n)).setCell ⟨g, k * 5 + 2, none⟩ (.string t.s)).setCell ⟨g, k * 5 + 3, none⟩ t.kv).setCell ⟨g, k * 5 + 4, none⟩ t.lv) kv (.slice (some ⟨g, 0, none⟩) N c) ks l (L.set k t) := by
 have A := azx w g (k * 5) (.int .u8 t.k) (.int .u64 t.n) (.string t.s) t.kv t.lv
 have Z : w0.heap.size ≤ g := h.lo.ge rfl
 have U : g < w.heap.size := h.lo.lt rfl
 have H := h.xl
 have J : k < L.length := by rw [h.len]; exact K
 have F : ∀ x, Rd (MP w0.heap.size kv (.slice (some ⟨g, 0, none⟩) N c)) w x → Rd (MP w0.heap.size kv (.slice (some ⟨g, 0, none⟩) N c)) (((((w.setCell ⟨g, k * 5, none⟩ (.int .u8 t.k)).setCell ⟨g, k * 5 + 1, none⟩ (.int .u64 t.n)).setCell ⟨g, k * 5 + 2, none⟩ (.string t.s)).setCell ⟨g, k * 5 + 3, none⟩ t.kv).setCell ⟨g, k * 5 + 4, none⟩ t.lv) x :=
  fun x H => H.upd A (fun i hi e => hi.2.2 (by rw [e]; rfl))
 refine ⟨h.x.upd A (fun e => by omega), h.ko.upd A (fun i hi e => am4 h.ko h.lo (by decide) hi (by rw [e]; rfl)), azw h.lo k J t, by rw [List.length_set]; exact h.len, fun j E D Y => ?_, fun j E D W => ?_, h.up.trans A (fun i e hi => by omega), h.xl⟩
 ·rw [List.getElem_set_ne (by omega)]; exact h.old j E (by simpa using D) (by omega)
 ·rcases Nat.lt_or_ge j k with I | I
  ·rw [List.getElem_set_ne (by omega)]
   have G := h.new j E (by simpa using D) I; exact ⟨G.1, F _ G.2⟩
  ·obtain rfl : j = k := by omega
   rw [List.getElem_set_self]; exact ⟨M, F _ O⟩
theorem OwSt.tree {t : VT} (h : OwSt w0 X B k tk n s w kv lv ks l L) (A : Rd (fun i => w.heap.size ≤ i) w' t) : Rd (MP w0.heap.size kv lv) w' t :=
 A.weaken (fun i _ hi => ⟨jk h.up.size hi, fun e => by have := h.ko.lt e; omega, fun e => by have := h.lo.lt e; omega⟩)
theorem OwSt.whole {S : Nat → Prop} (h : OwSt w0 X B l.length tk n s w kv lv ks l L) (A : Upd S w w') (D : ∀ i, S i → i < w0.heap.size) (J : 0 ≤ n) (I : n < 18446744073709551616) (K : 0 ≤ tk) (N : tk < 256) : Rd (fun i => w0.heap.size ≤ i) w' (.mk tk n s kv lv ks L) :=
 .mk ((h.ko.upd A (fun i hi e => by have F := h.ko.ge hi; have H := D i e; omega)).slc ac7) (fun _ i hi => h.ko.ge hi) ((h.lo.upd A (fun i hi e => by have F := h.lo.ge hi; have H := D i e; omega)).slc aak) (fun _ i hi => h.lo.ge hi)
  (fun x M => by
   obtain ⟨j, G, rfl⟩ := List.getElem_of_mem (show x ∈ L from M); have E : j < l.length := by rw [← h.len]; exact G
   exact ((h.new j E G E).2.upd A (fun i hi e => by have F := hi.1; have H := D i e; omega)).weaken (fun i _ hi => hi.1)) J I K N
theorem OwSt.same (h : OwSt w0 X B l.length tk n s w kv lv ks l L) : L.map VT.v = l.map VT.v := by
 refine List.ext_getElem (by simp [h.len]) (fun j D A => ?_)
 rw [zq, zq]
 exact (h.new j (by simpa using A) (by simpa using D) (by simpa using A)).1
end
theorem azy {P : Nat → Prop} {w : World} {p : PtT} (h : Rd P w p.pr.app) : ∀ v ∈ aat p, v.oneCell' = true := by
 obtain ⟨O, M, us, G, K, F, J, H, N, A, -⟩ := h.open
 obtain ⟨q, id, ⟨key, I, red, mid, app⟩, E⟩ := p
 have A : app = _ := A
 subst A
 intro v D
 simp only [aat, List.mem_cons, List.not_mem_nil, or_false] at D
 rcases D with rfl | rfl | rfl | rfl | rfl | rfl | rfl | rfl | rfl | rfl | rfl | rfl <;> rfl
theorem aqj : (prog.info? 51).map (fun i => (i.zero, i.size, i.bytes)) = some (some (.agg #[.string ⟨#[]⟩, .int .u64 0, .slice none 0 0]), 3, 48) := by kernel_rfl
theorem afm : ElemT prog 23 51 3 48 := ElemT.mk' underlying23 aqj rfl (by omega)
theorem apc (w : World) (a : Option Addr) (n c : Nat) : (binOp .eql 23 (.slice a n c) (.slice none 0 0)).run prog w = .ok (.bool a.isNone) w := Lib.run_eql_slice_nil w _ _ a n c 0 0 underlying23
theorem aug (w : World) (v : Value) (L : List QuT) (h : Slc aar 3 w v L) (N : L.length ≤ 1000000) (D : ∀ x ∈ L, ∀ u ∈ aar x, u.oneCell' = true) :
 Calls prog 81 #[v] w fun e w' => ∃ r, e = .returned r ∧ Own w.heap.size 51 3 aar w' r L ∧ Below w.heap.size w w' := by
 have W := apc
 obtain ⟨a, M, rfl, O⟩ := h.len
 cases a with
 | none =>
  have G : L = [] := by
   rcases h with ⟨_, _, _, _, F⟩ | ⟨g, off, J, H, _⟩
   ·exact F
   ·simp at H
  subst G; go_enter func81, ntmps81; go_wp2; go_ret; exact ⟨_, rfl, Own.nil, qz _ _⟩
 | some ad =>
  go_enter func81, ntmps81; go_wp2_with (at_builtin; refine ac9 rfl _ _ 23 51 rfl afm aaf _ ([] : List QuT) rfl (Own.made0 w 51 (qj _)) _ L D rfl (h.pure ((qz _ _).alloc (qj _) _)) (by unfold maxLen; simp <;> omega) (by simp <;> omega) (by simp) ?_; intro U Y A E K I); go_ret; refine ⟨_, rfl, by simpa using A, ?_⟩; exact ((qz w.heap.size w).alloc (qj _) _).grown E (by simp) (fun j e => by have e : some w.heap.size = some j := e; injection e with e; omega)
theorem aqk : (prog.info? 62).map (fun i => (i.zero, i.size, i.bytes)) = some (some (.agg #[.int .u32 0, .string ⟨#[]⟩, .string ⟨#[]⟩, .slice none 0 0, .slice none 0 0]), 5, 88) := by kernel_rfl
theorem afn : ElemT prog 24 62 5 88 := ElemT.mk' underlying24 aqk rfl (by omega)
theorem apd (w : World) (a : Option Addr) (n c : Nat) : (binOp .eql 24 (.slice a n c) (.slice none 0 0)).run prog w = .ok (.bool a.isNone) w := Lib.run_eql_slice_nil w _ _ a n c 0 0 underlying24
theorem auh (w : World) (v : Value) (L : List BrT) (h : Slc aa7 5 w v L) (N : L.length ≤ 1000000) (D : ∀ x ∈ L, ∀ u ∈ aa7 x, u.oneCell' = true) :
 Calls prog 82 #[v] w fun e w' => ∃ r, e = .returned r ∧ Own w.heap.size 62 5 aa7 w' r L ∧ Below w.heap.size w w' := by
 have W := apd
 obtain ⟨a, M, rfl, O⟩ := h.len
 cases a with
 | none =>
  have G : L = [] := by
   rcases h with ⟨_, _, _, _, F⟩ | ⟨g, off, J, H, _⟩
   ·exact F
   ·simp at H
  subst G; go_enter func82, ntmps82; go_wp2; go_ret; exact ⟨_, rfl, Own.nil, qz _ _⟩
 | some ad =>
  go_enter func82, ntmps82; go_wp2_with (at_builtin; refine ac9 rfl _ _ 24 62 rfl afn aag _ ([] : List BrT) rfl (Own.made0 w 62 (qj _)) _ L D rfl (h.pure ((qz _ _).alloc (qj _) _)) (by unfold maxLen; simp <;> omega) (by simp <;> omega) (by simp) ?_; intro U Y A E K I); go_ret; refine ⟨_, rfl, by simpa using A, ?_⟩; exact ((qz w.heap.size w).alloc (qj _) _).grown E (by simp) (fun j e => by have e : some w.heap.size = some j := e; injection e with e; omega)
theorem aw6 : (prog.info? 90).map (fun i => (i.zero, i.size, i.bytes)) = some (some (.agg #[.int .u32 0, .string ⟨#[]⟩, .string ⟨#[]⟩, .bool false]), 4, 48) := by kernel_rfl
theorem aql : ElemT prog 25 90 4 48 := ElemT.mk' underlying25 aw6 rfl (by omega)
theorem ape (w : World) (a : Option Addr) (n c : Nat) : (binOp .eql 25 (.slice a n c) (.slice none 0 0)).run prog w = .ok (.bool a.isNone) w := Lib.run_eql_slice_nil w _ _ a n c 0 0 underlying25
theorem aui (w : World) (v : Value) (L : List He) (h : Slc adp 4 w v L) (N : L.length ≤ 1000000) (D : ∀ x ∈ L, ∀ u ∈ adp x, u.oneCell' = true) :
 Calls prog 83 #[v] w fun e w' => ∃ r, e = .returned r ∧ Own w.heap.size 90 4 adp w' r L ∧ Below w.heap.size w w' := by
 have W := ape
 obtain ⟨a, M, rfl, O⟩ := h.len
 cases a with
 | none =>
  have G : L = [] := by
   rcases h with ⟨_, _, _, _, F⟩ | ⟨g, off, J, H, _⟩
   ·exact F
   ·simp at H
  subst G; go_enter func83, ntmps83; go_wp2; go_ret; exact ⟨_, rfl, Own.nil, qz _ _⟩
 | some ad =>
  go_enter func83, ntmps83; go_wp2_with (at_builtin; refine ac9 rfl _ _ 25 90 rfl aql adi _ ([] : List He) rfl (Own.made0 w 90 (qj _)) _ L D rfl (h.pure ((qz _ _).alloc (qj _) _)) (by unfold maxLen; simp <;> omega) (by simp <;> omega) (by simp) ?_; intro U Y A E K I); go_ret; refine ⟨_, rfl, by simpa using A, ?_⟩; exact ((qz w.heap.size w).alloc (qj _) _).grown E (by simp) (fun j e => by have e : some w.heap.size = some j := e; injection e with e; omega)
theorem aqm : (prog.info? 60).map (fun i => (i.zero, i.size, i.bytes)) = some (some (.agg #[.int .u64 0, .string ⟨#[]⟩, .bool false, .bool false, .string ⟨#[]⟩, .int .u8 0, .int .u64 0, .string ⟨#[]⟩, .slice none 0 0, .slice none 0 0, .string ⟨#[]⟩]), 11, 144) := by kernel_rfl
theorem aml : ElemT prog 49 60 11 144 := ElemT.mk' underlying49 aqm rfl (by omega)
theorem apf (w : World) (a : Option Addr) (n c : Nat) : (binOp .eql 49 (.slice a n c) (.slice none 0 0)).run prog w = .ok (.bool a.isNone) w := Lib.run_eql_slice_nil w _ _ a n c 0 0 underlying49
theorem auj (w : World) (v : Value) (L : List MsT) (h : Slc abl 11 w v L) (N : L.length ≤ 1000000) (D : ∀ x ∈ L, ∀ u ∈ abl x, u.oneCell' = true) :
 Calls prog 84 #[v] w fun e w' => ∃ r, e = .returned r ∧ Own w.heap.size 60 11 abl w' r L ∧ Below w.heap.size w w' := by
 have W := apf
 obtain ⟨a, M, rfl, O⟩ := h.len
 cases a with
 | none =>
  have G : L = [] := by
   rcases h with ⟨_, _, _, _, F⟩ | ⟨g, off, J, H, _⟩
   ·exact F
   ·simp at H
  subst G; go_enter func84, ntmps84; go_wp2; go_ret; exact ⟨_, rfl, Own.nil, qz _ _⟩
 | some ad =>
  go_enter func84, ntmps84; go_wp2_with (at_builtin; refine ac9 rfl _ _ 49 60 rfl aml aac _ ([] : List MsT) rfl (Own.made0 w 60 (qj _)) _ L D rfl (h.pure ((qz _ _).alloc (qj _) _)) (by unfold maxLen; simp <;> omega) (by simp <;> omega) (by simp) ?_; intro U Y A E K I); go_ret; refine ⟨_, rfl, by simpa using A, ?_⟩; exact ((qz w.heap.size w).alloc (qj _) _).grown E (by simp) (fun j e => by have e : some w.heap.size = some j := e; injection e with e; omega)
theorem aw7 : (prog.info? 64).map (fun i => (i.zero, i.size, i.bytes)) = some (some (.agg #[.string ⟨#[]⟩, .int .u64 0, .string ⟨#[]⟩, .bool false, .bool false, .string ⟨#[]⟩, .int .u8 0, .int .u64 0, .string ⟨#[]⟩, .slice none 0 0, .slice none 0 0, .string ⟨#[]⟩]), 12, 160) := by kernel_rfl
theorem aw8 : ElemT prog 31 64 12 160 := ElemT.mk' underlying31 aw7 rfl (by omega)
theorem apg (w : World) (a : Option Addr) (n c : Nat) : (binOp .eql 31 (.slice a n c) (.slice none 0 0)).run prog w = .ok (.bool a.isNone) w := Lib.run_eql_slice_nil w _ _ a n c 0 0 underlying31
theorem auk (w : World) (v : Value) (L : List PtT) (h : Slc aat 12 w v L) (N : L.length ≤ 1000000) (D : ∀ x ∈ L, ∀ u ∈ aat x, u.oneCell' = true) :
 Calls prog 136 #[v] w fun e w' => ∃ r, e = .returned r ∧ Own w.heap.size 64 12 aat w' r L ∧ Below w.heap.size w w' := by
 have W := apg
 obtain ⟨a, M, rfl, O⟩ := h.len
 cases a with
 | none =>
  have G : L = [] := by
   rcases h with ⟨_, _, _, _, F⟩ | ⟨g, off, J, H, _⟩
   ·exact F
   ·simp at H
  subst G; go_enter func136, ntmps136; go_wp2; go_ret; exact ⟨_, rfl, Own.nil, qz _ _⟩
 | some ad =>
  go_enter func136, ntmps136; go_wp2_with (at_builtin; refine ac9 rfl _ _ 31 64 rfl aw8 aae _ ([] : List PtT) rfl (Own.made0 w 64 (qj _)) _ L D rfl (h.pure ((qz _ _).alloc (qj _) _)) (by unfold maxLen; simp <;> omega) (by simp <;> omega) (by simp) ?_; intro U Y A E K I); go_ret; refine ⟨_, rfl, by simpa using A, ?_⟩; exact ((qz w.heap.size w).alloc (qj _) _).grown E (by simp) (fun j e => by have e : some w.heap.size = some j := e; injection e with e; omega)
theorem aw9 : (prog.info? 68).map (fun i => (i.zero, i.size, i.bytes)) = some (some (.agg #[.string ⟨#[]⟩, .int .u64 0]), 2, 24) := by kernel_rfl
theorem amm : ElemT prog 32 68 2 24 := ElemT.mk' underlying32 aw9 rfl (by omega)
theorem aph (w : World) (a : Option Addr) (n c : Nat) : (binOp .eql 32 (.slice a n c) (.slice none 0 0)).run prog w = .ok (.bool a.isNone) w := Lib.run_eql_slice_nil w _ _ a n c 0 0 underlying32
theorem anp (w : World) (v : Value) (L : List Rf) (h : Slc abc 2 w v L) (N : L.length ≤ 1000000) (D : ∀ x ∈ L, ∀ u ∈ abc x, u.oneCell' = true) :
 Calls prog 87 #[v] w fun e w' => ∃ r, e = .returned r ∧ Own w.heap.size 68 2 abc w' r L ∧ Below w.heap.size w w' := by
 have W := aph
 obtain ⟨a, M, rfl, O⟩ := h.len
 cases a with
 | none =>
  have G : L = [] := by
   rcases h with ⟨_, _, _, _, F⟩ | ⟨g, off, J, H, _⟩
   ·exact F
   ·simp at H
  subst G; go_enter func87, ntmps87; go_wp2; go_ret; exact ⟨_, rfl, Own.nil, qz _ _⟩
 | some ad =>
  go_enter func87, ntmps87; go_wp2_with (at_builtin; refine ac9 rfl _ _ 32 68 rfl amm aa9 _ ([] : List Rf) rfl (Own.made0 w 68 (qj _)) _ L D rfl (h.pure ((qz _ _).alloc (qj _) _)) (by unfold maxLen; simp <;> omega) (by simp <;> omega) (by simp) ?_; intro U Y A E K I); go_ret; refine ⟨_, rfl, by simpa using A, ?_⟩; exact ((qz w.heap.size w).alloc (qj _) _).grown E (by simp) (fun j e => by have e : some w.heap.size = some j := e; injection e with e; omega)
def ent9 (w : World) (B : Nat) (v0 v1 v2 v3 v4 v5 v6 v7 v8 : Value) : World := ((((((((w.setCell ⟨B, 0, none⟩ v0).setCell ⟨B, 1, none⟩ v1).setCell ⟨B, 2, none⟩ v2).setCell ⟨B, 3, none⟩ v3).setCell ⟨B, 4, none⟩ v4).setCell ⟨B, 5, none⟩ v5).setCell ⟨B, 6, none⟩ v6).setCell ⟨B, 7, none⟩ v7).setCell ⟨B, 8, none⟩ v8
theorem Upd.ent9 (w : World) (B : Nat) (K G E J A I H F D : Value) : Upd (fun k => k = B) w (ent9 w B K G E J A I H F D) := aba (S := fun k => k = B) (aba (S := fun k => k = B) (aba (S := fun k => k = B) (aba (S := fun k => k = B) (aba (S := fun k => k = B) (aba (S := fun k => k = B) (aba (S := fun k => k = B) (aba (S := fun k => k = B) (aba (S := fun k => k = B) (Upd.refl (fun k => k = B) w) B 0 K rfl) B 1 G rfl) B 2 E rfl) B 3 J rfl) B 4 A rfl) B 5 I rfl) B 6 H rfl) B 7 F rfl) B 8 D rfl
theorem Blk.ent9 {w : World} {B : Nat} {c0 M Z Y U W c6 O N : Value} (h : Blk w B [c0, M, Z, Y, U, W, c6, O, N]) (E I A D F K J H G : Value) : Blk (ent9 w B E I A D F K J H G) B [E, I, A, D, F, K, J, H, G] := ((((((((h.set 0 E).set 1 I).set 2 A).set 3 D).set 4 F).set 5 K).set 6 J).set 7 H).set 8 G
theorem arm {w W : World} {B : Nat} (h : Below w.heap.size w W) (M : w.heap.size ≤ B) (D H K A E J I G F : Value) : Below w.heap.size w (ent9 W B D H K A E J I G F) := h.trans ((Upd.ent9 W B D H K A E J I G F).below h.size (fun k e => by have e : k = B := e; omega))
def ent4 (w : World) (B : Nat) (v0 v1 v2 v3 : Value) : World := (((w.setCell ⟨B, 0, none⟩ v0).setCell ⟨B, 1, none⟩ v1).setCell ⟨B, 2, none⟩ v2).setCell ⟨B, 3, none⟩ v3
theorem Upd.ent4 (w : World) (B : Nat) (F A D E : Value) : Upd (fun k => k = B) w (ent4 w B F A D E) := aba (S := fun k => k = B) (aba (S := fun k => k = B) (aba (S := fun k => k = B) (aba (S := fun k => k = B) (Upd.refl (fun k => k = B) w) B 0 F rfl) B 1 A rfl) B 2 D rfl) B 3 E rfl
theorem Blk.ent4 {w : World} {B : Nat} {I G H J : Value} (h : Blk w B [I, G, H, J]) (F E D A : Value) : Blk (ent4 w B F E D A) B [F, E, D, A] := (((h.set 0 F).set 1 E).set 2 D).set 3 A
def ent3 (w : World) (B : Nat) (v0 v1 v2 : Value) : World := ((w.setCell ⟨B, 0, none⟩ v0).setCell ⟨B, 1, none⟩ v1).setCell ⟨B, 2, none⟩ v2
theorem Upd.ent3 (w : World) (B : Nat) (E A D : Value) : Upd (fun k => k = B) w (ent3 w B E A D) := aba (S := fun k => k = B) (aba (S := fun k => k = B) (aba (S := fun k => k = B) (Upd.refl (fun k => k = B) w) B 0 E rfl) B 1 A rfl) B 2 D rfl
theorem Blk.ent3 {w : World} {B : Nat} {H F G : Value} (h : Blk w B [H, F, G]) (E D A : Value) : Blk (ent3 w B E D A) B [E, D, A] := ((h.set 0 E).set 1 D).set 2 A
theorem afo {w W : World} {B : Nat} (h : Below w.heap.size w W) (F : w.heap.size ≤ B) (A D E : Value) : Below w.heap.size w (ent3 W B A D E) := h.trans ((Upd.ent3 W B A D E).below h.size (fun k e => by have e : k = B := e; omega))
theorem afa (t : PT) (P : Nat → Prop) (w : World) (H : Rd P w t.app) (h0 : t.p.smallB = true) (hT : Tb w) : Calls prog 85 #[t.arg] w fun e w' => ∃ G : PT, e = .returned G.arg ∧ G.p = t.p ∧ Rd (fun i => w.heap.size ≤ i) w' G.app ∧ Below w.heap.size w w' := by
 have h1 : t.p.chk = 0 ∧ t.p.bytes.length ≤ 8192 := by unfold Pr.smallB at h0; simpa using h0
 have ar := fun (u : World) (h : Below w.heap.size w u) => ajj t P u (H.pure h) (hT.pure h)
 have au := fun (u : World) (h : Below w.heap.size w u) => auf u t.p.text (by show t.p.bytes.length ≤ _; omega) (hT.pure h) (aw5 t.p H.wf h1.1)
 have aw : pgO t.p.text.data.toList = some t.p := atj H.wf h1.1
 obtain ⟨S, hS⟩ := zj t.p.text
 have af : ∀ (u : World), Below w.heap.size w u → Calls prog 134 #[t.arg] u fun e w' => e = .returned (.tuple #[.string S, .int .i64 0]) ∧ Below u.heap.size u w' := fun u h => by rw [hS]; have q := ar u h; rwa [h1.1, qw rfl] at q
 have ae : ∀ (u : World), Below w.heap.size w u → Calls prog 135 #[.string S] u fun e w' => ∃ G : PT, e = .returned (.tuple #[G.arg, .int .i64 0]) ∧ G.p = t.p ∧ Rd (fun i => u.heap.size ≤ i) w' G.app ∧ Below u.heap.size u w' := fun u h => by rw [hS]; have q := au u h; rw [aw] at q; exact q
 clear ar au
 obtain ⟨X, hX⟩ := qx t.p
 rw [hX] at ae ⊢
 obtain ⟨key, aj, red, mid, tv⟩ := t
 have H : Rd _ _ tv := H
 obtain ⟨uk, un, us, ak, al, am, ai, ah, ul, rfl, -⟩ := H.open
 rw [PT.arg_mk] at af ⊢
 have ba := qq af; have bb := qq ae
 clear af ae hS hX aw h1 h0 H
 have zi := ajd
 have ab := ((qz w.heap.size w).alloc (qj _) (.cells #[.string key, .bool aj, .bool red, .string mid, .int .u8 uk, .int .u64 un, .string us, .slice ak ah.length al, .slice am ul.length ai] 58)).alloc (by simp) (.cells #[.string ⟨#[]⟩, .bool false, .bool false, .string ⟨#[]⟩, .int .u8 0, .int .u64 0, .string ⟨#[]⟩, .slice none 0 0, .slice none 0 0] 58)
 have A1 := (Blk.new w [.string key, .bool aj, .bool red, .string mid, .int .u8 uk, .int .u64 un, .string us, .slice ak ah.length al, .slice am ul.length ai] 58).alloc (.cells #[.string ⟨#[]⟩, .bool false, .bool false, .string ⟨#[]⟩, .int .u8 0, .int .u64 0, .string ⟨#[]⟩, .slice none 0 0, .slice none 0 0] 58)
 have Z1 := Blk.newE (w.alloc (.cells #[.string key, .bool aj, .bool red, .string mid, .int .u8 uk, .int .u64 un, .string us, .slice ak ah.length al, .slice am ul.length ai] 58)) [.string ⟨#[]⟩, .bool false, .bool false, .string ⟨#[]⟩, .int .u8 0, .int .u64 0, .string ⟨#[]⟩, .slice none 0 0, .slice none 0 0] 58 (w.heap.size + 1) (by simp)
 obtain ⟨a0, a1, a2, a3, a4, a5, a6, a7, a8⟩ := A1.a9
 go_enter func85, ntmps85
 go_upto_region 3 with (first | (go_at_call 134; (with_reducible refine (ba.out _ ab).mono ?_); rintro e w2 ⟨rfl, aa⟩; have ac := ab.trans (aa.mono ab.size)) | (go_at_call 135; (with_reducible refine (bb.out _ ac).mono ?_); rintro e w3 ⟨⟨E, F, A, D, bc⟩, rfl, ao, Z, ag⟩; have Z : Rd _ _ bc := Z; obtain ⟨O, U, Y, K, M, I, N, J, W, rfl, -⟩ := Z.open; rw [PT.arg_mk]; have ao := qq ao; have an := ac.trans (ag.mono ac.size)))
 have Z3 := (Z1.pure aa).pure ag
 have bf := aa.size
 have bg : w.heap.size + 2 ≤ w2.heap.size := by have := aa.size; simp at this; omega
 have aq := Blk.new w3 [.string E, .bool F, .bool A, .string D, .int .u8 O, .int .u64 U, .string Y, .slice K J.length M, .slice I W.length N] 58
 have ad := (qz w3.heap.size w3).alloc (qj _) (.cells #[.string E, .bool F, .bool A, .string D, .int .u8 O, .int .u64 U, .string Y, .slice K J.length M, .slice I W.length N] 58)
 have Z4 := Z3.pure ad; have av := an.trans (ad.mono an.size); have az := Z.pure ad
 generalize w3.heap.size = nb at aq ⊢
 generalize w3.alloc (.cells #[.string E, .bool F, .bool A, .string D, .int .u8 O, .int .u64 U, .string Y, .slice K J.length M, .slice I W.length N] 58) = u at aq Z4 av az ⊢
 clear ad Z ag an Z3 ac Z1 A1 ab a0 a1 a2 a3 a4 a5 a6 a7 a8 bf
 obtain ⟨n0, n1, n2, n3, n4, n5, n6, n7, n8⟩ := aq.a9; obtain ⟨z0, z1, z2, z3, z4, z5, z6, z7, z8⟩ := Z4.a9; obtain ⟨y0, y1, y2, y3, y4, y5, y6, y7, y8⟩ := Z4.f9
 have Zq := Z4.ent9 (.string E) (.bool F) (.bool A) (.string D) (.int .u8 O) (.int .u64 U) (.string Y) (.slice K J.length M) (.slice I W.length N)
 have bd := Upd.ent9 u (w.heap.size + 1) (.string E) (.bool F) (.bool A) (.string D) (.int .u8 O) (.int .u64 U) (.string Y) (.slice K J.length M) (.slice I W.length N)
 have ay := arm av (B := w.heap.size + 1) (by omega) (.string E) (.bool F) (.bool A) (.string D) (.int .u8 O) (.int .u64 U) (.string Y) (.slice K J.length M) (.slice I W.length N)
 have ax := (az.upd bd (fun k hk e => by have e : k = w.heap.size + 1 := e; omega)).weaken (Q := fun i => w.heap.size ≤ i) (fun i _ hi => by omega)
 obtain ⟨k0, k1, k2, k3, k4, k5, k6, k7, k8⟩ := Zq.a9
 unfold ent9 at k0 k1 k2 k3 k4 k5 k6 k7 k8 ay ax
 go_wp2
 refine bodyPost_ret (by simp [results, Tryz.results85, go_sem, k0, k1, k2, k3, k4, k5, k6, k7, k8]; rfl) rfl ?_
 exact ⟨⟨E, F, A, D, _⟩, rfl, ao.out, ax, ay⟩
structure WkT where
 pv : Value
 tv : Value
 zu : List PtT
 zy : List Rf
def WkT.w (t : WkT) : Wk := ⟨t.zu.map PtT.p, t.zy⟩
def WkT.en (t : WkT) : EnT := ⟨4, ⟨#[]⟩, 0, xW, t.pv, t.tv, t.zu, t.zy⟩
def WkT.arg (t : WkT) : Value := .agg #[t.pv, t.tv]
theorem WkT.arg_mk (A D : Value) (F : List PtT) (E : List Rf) : (WkT.mk A D F E).arg = .agg #[A, D] := rfl
theorem WkT.en_e (t : WkT) : t.en.e = t.w.whole := rfl
abbrev WkRd (P : Nat → Prop) (w : World) (t : WkT) : Prop := EnRd P w t.en
theorem EnRd.as {P : Nat → Prop} {w : World} {t : EnT} (h : EnRd P w t) (k : Int) (I : ByteArray) (n : Int) (x : Xn) (F : 0 ≤ k) (D : k < 256) (G : 0 ≤ n) (H : n < 18446744073709551616) (E : 0 ≤ x.1) (A : x.1 < 4294967296) : EnRd P w ⟨k, I, n, x, t.pv, t.tv, t.zu, t.zy⟩ :=
 ⟨h.p, h.pP, h.r, h.s, h.sP, ⟨F, D, G, H, E, A, h.wf.p, h.wf.t⟩⟩
theorem EnRd.work {P : Nat → Prop} {w : World} {t : EnT} (h : EnRd P w t) : WkRd P w ⟨t.pv, t.tv, t.zu, t.zy⟩ :=
 h.as 4 ⟨#[]⟩ 0 xW (by omega) (by omega) (by omega) (by omega) (by show (0 : Int) ≤ 0; omega) (by show (0 : Int) < 4294967296; omega)
def ayk : Prop := ∀ (t : EnT) (P : Nat → Prop) (w : World), EnRd P w t → Tb w → Calls prog 27 #[t.arg] w fun e w' => e = .returned (.int .i64 t.e.chk) ∧ Below w.heap.size w w'
theorem aik {A : Type} {enc : A → List Value} {m : Nat} {w : World} {g : Nat} {x : A} (E : Blk w g (enc x)) : Slc enc m w (.slice (some ⟨g, 0, none⟩) 1 1) [x] := by
 refine .inr ⟨g, 0, 1, rfl, qj _, by unfold maxLen; omega, fun i hi j u D => ?_⟩
 have : i = 0 := by simp at hi; omega
 subst this
 simp only [List.getElem_cons_zero] at D
 have := E.cell j
 simp only [Nat.zero_mul, Nat.zero_add]
 rw [this]; exact D
def amn (l : List MsT) (k : Nat) : Int := ((l.take k).getLast?.map MsT.id).getD 0
theorem afp (l : List MsT) : amn l 0 = 0 := by unfold amn; simp
theorem afq {l : List MsT} {k : Nat} (h : k < l.length) : amn l (k + 1) = l[k].id := by unfold amn; rw [jx h, List.getLast?_concat]; rfl
def apj (n : Int) (l : List MsT) (k : Nat) (h : k < l.length) : Prop := amn l k < l[k].id ∧ l[k].id < n ∧ l[k].m.okB = true
theorem azz {n : Int} {q : QuT} (G : qn q.name = true) (H : ah2 q.limit = true) (h : ∀ k, (h : k < q.zw.length) → apj n q.zw k h) : q.q.okB n = true := by
 have E : ∀ k, (h : k < q.zw.length) → 1 ≤ q.zw[k].id := by
  intro k
  induction k with
  | zero => intro A; have := (h 0 A).1; rw [afp] at this; omega
  | succ k ih => intro A; have := (h (k + 1) A).1; rw [afq (by omega)] at this; have := ih (by omega); omega
 refine awh.2 ⟨G, H, fun m I => ?_, ?_⟩
 ·obtain ⟨t, J, rfl⟩ := jv.1 I
  obtain ⟨k, A, rfl⟩ := List.getElem_of_mem J; exact ⟨E k A, (h k A).2.1, (h k A).2.2⟩
 ·show (q.zw.map MsT.m).Pairwise _
  rw [List.pairwise_map]
  have D : adj (fun a b : MsT => decide (a.id < b.id)) q.zw = true := ahi.2 (fun i hi => by
   have := (h (i + 1) hi).1; rw [afq (by omega)] at this
   exact qp this)
  rw [atm (fun a b c E K => by rw [qm] at *; omega)] at D; exact D.imp (fun F => qt F)
theorem bby {n : Int} {q : QuT} {k : Nat} (D : k < q.zw.length) (F : ¬ apj n q.zw k D) : q.q.okB n = false := by
 cases ho : q.q.okB n with
 | false => rfl
 | true =>
  have h := awh.1 ho; refine jp ⟨?_, ?_⟩ F
  ·have A := h.ms _ (jv.2 ⟨_, qy D, rfl⟩)
   rcases k with _ | k
   ·rw [afp]; have : 1 ≤ q.zw[0].id := A.1; omega
   ·rw [afq (by omega)]
    have E : (q.zw.map MsT.m).Pairwise (fun a b => a.id < b.id) := h.rs; rw [List.pairwise_map] at E; exact List.pairwise_iff_getElem.1 E k (k + 1) (by omega) D (by omega)
  ·have A := h.ms _ (jv.2 ⟨_, qy D, rfl⟩)
   exact ⟨A.2.1, A.2.2⟩
theorem ayl {n : Int} {qs : List QuT} {i : Nat} (hi : i < qs.length) (A : qs[i].q.okB n = false) : qsB n (qs.map QuT.q) = false := by
 cases ho : qsB n (qs.map QuT.q) with
 | false => rfl
 | true =>
  unfold qsB at ho; rw [jj, jt] at ho; have := ho.1 _ (jv.2 ⟨_, qy hi, rfl⟩); rw [A] at this; cases this
theorem ajv {P : Prop} (h : P := by
 rw [jt]
 intro q hq
 obtain ⟨t, ht, rfl⟩ := jv.1 hq
 obtain ⟨i, hi, rfl⟩ := List.getElem_of_mem ht
 exact h i hi) : P := h
theorem bbz {n : Int} {qs : List QuT} (h : ∀ i, (hi : i < qs.length) → qs[i].q.okB n = true) : qsB n (qs.map QuT.q) = aia abf QuT.name qs := by
 unfold qsB
 have A : (qs.map QuT.q).all (Qu.okB n) = true := by
  exact ajv
 rw [A, Bool.true_and, Bool.eq_iff_iff, ad4 cmpB_ok, ad4 cmpB_ok]
 exact ad6 (c := abf) (k := Qu.name) (g := QuT.q)
theorem bdn {A : ByteArray} {m : MsT} (N : qn A = true) (E : 1 ≤ m.id) (K : m.id ≤ 1099511627776) : (En.mk 3 ⟨#[]⟩ 0 Xn.zero [⟨A, m.id, m.pr.p, m.body⟩] []).chk = if m.m.okB = true then 0 else 130 := by
 have J : us 3 = 8 := rfl
 have H : uN 3 = false := rfl
 have G : uM 3 = false := rfl
 have O : uX 3 = false := rfl
 have M : uW 3 = true := rfl
 have I : (⟨#[]⟩ : ByteArray).size = 0 := rfl
 have U : ((3 : Int) == 3) = true := rfl
 have F : (Xn.zero.1 == 0 && Xn.zero.2.1.size == 0 && Xn.zero.2.2.size == 0) = true := rfl
 have hi : ah2 m.id = true := by unfold ah2; simp only [jj, qm]; exact ⟨E, K⟩
 have D : (En.mk 3 ⟨#[]⟩ 0 Xn.zero [⟨A, m.id, m.pr.p, m.body⟩] []).okB = m.m.okB := by
  unfold En.okB; simp only [J, H, G, O, M, I, U, F, List.all_cons, List.all_nil, Bool.and_true]; unfold Pt.okB Ms.okB MsT.m; simp [N, hi]
 unfold En.chk
 rw [D]
theorem axa {P : Nat → Prop} {w : World} {B : Nat} {p : PtT} (D : Blk w B (aat p)) (A : Rd P w p.pr.app) (hi : 0 ≤ p.id ∧ p.id < 18446744073709551616) : EnRd (fun _ => True) w ⟨3, ⟨#[]⟩, 0, (0, ⟨#[]⟩, ⟨#[]⟩), .slice (some ⟨B, 0, none⟩) 1 1, .slice none 0 0, [p], []⟩ :=
 ⟨aik D, fun _ _ _ => trivial, fun x E => by rw [jc.1 E]; exact A.weaken (fun _ _ _ => trivial), Slc.nil _ _ _, fun _ _ _ => trivial,
  ⟨(by show (0 : Int) ≤ 3; omega), (by show (3 : Int) < 256; omega), (by show (0 : Int) ≤ 0; omega), (by show (0 : Int) < 18446744073709551616; omega), (by show (0 : Int) ≤ 0; omega), (by show (0 : Int) < 4294967296; omega), fun y hy => by
   have hy : y ∈ [p.p] := hy
   rw [jc.1 hy]; exact ⟨hi.1, hi.2, A.wf⟩, fun y hy => by have hy : y ∈ ([] : List Rf) := hy; cases hy⟩⟩
theorem axb : (prog.info? 34).map (fun i => (i.zero, i.size)) = some (some (.agg #[.int .u8 0, .string ⟨#[]⟩, .int .u64 0, .int .u32 0, .string ⟨#[]⟩, .string ⟨#[]⟩, .slice none 0 0, .slice none 0 0]), 8) := by kernel_rfl
theorem axc : (prog.info? 64).map (fun i => (i.zero, i.size)) = some (some (.agg #[.string ⟨#[]⟩, .int .u64 0, .string ⟨#[]⟩, .bool false, .bool false, .string ⟨#[]⟩, .int .u8 0, .int .u64 0, .string ⟨#[]⟩, .slice none 0 0, .slice none 0 0, .string ⟨#[]⟩]), 12) := by kernel_rfl
theorem agi {P : Prop} (h : P := by
 go_wp2_with (go_at_call 78; (with_reducible refine (acx _ name).mono ?_); rw [hqb.out]; rintro e w3 ⟨rfl, hB3⟩; have hT3 := hBq.trans (hB3.mono hBq.size); have Q3 := Q1.pure hB3; have A3 := Ar.pure hB3; (try clear b0 b1 b2); obtain ⟨d0, d1, d2⟩ := Q3.a3)
 go_ret
 exact ⟨by rw [hz.out]; rfl, hT3⟩) : P := h
theorem arn (cb : ayk) (w : World) (nx : Int) (qa : Option Addr) (qc : Nat) (ba : Option Addr) (bn bc : Nat) (ha : Option Addr) (hn hc : Nat) (qs : List QuT) (P : Nat → Prop) (hR : QsRd P w (.slice qa qs.length qc) qs) (hT : Tb w) (hL : qs.length ≤ 1000000 ∧ ∀ q ∈ qs, q.zw.length ≤ 1000000) (ck : nx ≤ 1099511627777) :
 Calls prog 47 #[.agg #[.int .u64 nx, .slice qa qs.length qc, .slice ba bn bc, .slice ha hn hc]] w fun e w' => e = .returned (.bool (qsB nx (qs.map QuT.q))) ∧ Below w.heap.size w w' := by
 have bg := qq hR; have b9 := qq hL
 have ci : (qs.length : Int) ≤ 1000000 := by have := hL.1; omega
 have bw := (qz w.heap.size w).alloc (qj _) (.cells #[.int .u64 nx, .slice qa qs.length qc, .slice ba bn bc, .slice ha hn hc] 27)
 have A1 := Blk.new w [.int .u64 nx, .slice qa qs.length qc, .slice ba bn bc, .slice ha hn hc] 27
 have zi := axb; have zp := axc
 have bp := fun (u : World) (h : Below w.heap.size w u) => bdh u (.slice qa qs.length qc) qs (hR.s.pure h) P (fun x W => (hR.m x W).pure h) hL.1
 have b5 := qq bp
 have a1 := A1.at 1 rfl
 clear hR hL bp
 go_enter func47, ntmps47
 go_wp2
 clear a1
 go_loopw [12] (fun bb wr => ∃ i : Nat, i ≤ qs.length ∧ bb = .int .i64 i ∧ Hid (∀ j, (h : j < qs.length) → j < i → qs[j].q.okB nx = true) ∧ Below w.heap.size w wr ∧ Blk wr w.heap.size [.int .u64 nx, .slice qa qs.length qc, .slice ba bn bc, .slice ha hn hc]) (fun bb _ => qs.length - (intOf bb).toNat)
 case atStart => exact ⟨0, Nat.zero_le _, rfl, qq (fun j h h' => jp h' (by omega)), bw, A1⟩
 case round =>
  obtain ⟨i, hi, rfl, bm, F, bi⟩ := hrel; clear A1 bw; by_cases ab : i < qs.length
  ·have bd := (bg.out.s.pure F)
   obtain ⟨g, off, rfl⟩ := bd.addrB ab; obtain ⟨name, G, ma, Z, zw, W, cf, c0, c1, c2⟩ := aep bd ab ((bg.out.m _ (qy ab)).pure F); have af := qq (show MsRd P wr (.slice ma zw.length Z) zw by have h := (bg.out.m _ (qy ab)).pure F; rw [W] at h; exact h); have cj : (zw.length : Int) ≤ 1000000 := by have h := b9.out.2 _ (qy ab); rw [W] at h; have h : zw.length ≤ 1000000 := h; omega
   have ad : qs[i].q.okB nx = (QuT.mk name G (.slice ma zw.length Z) zw).q.okB nx := by rw [W]
   have aw := qq ad; clear W cf ad bd; go_upto_region 4 with fail; have Q0 := Blk.new wr [.string name, .int .u64 G, .slice ma zw.length Z] 51; have A := (qz wr.heap.size wr).alloc (qj _) (.cells #[.string name, .int .u64 G, .slice ma zw.length Z] 51); have Ar := bi.pure A; have hBq := F.trans (A.mono F.size); have af := qq (af.out.pure A); obtain ⟨qb, hqb⟩ := qx wr.heap.size; rw [hqb] at Q0 ⊢; have cc := F.size; rw [hqb] at cc; have Q1 := Q0; generalize wr.alloc (.cells #[.string name, .int .u64 G, .slice ma zw.length Z] 51) = u at Q1 Ar hBq af ⊢; clear hqb Q0 A c0 c1 c2 F bi; obtain ⟨b0, b1, b2⟩ := Q1.a3; obtain ⟨bo, bq⟩ := qx (qn name); have hqb := qq bq; clear bq
   have ai := qq (fun (h : ¬ (bo = true ∧ 1 ≤ G ∧ G ≤ 1099511627776)) => show qsB nx (qs.map QuT.q) = false from ayl ab (by
    rw [aw.out]
    cases ho : (QuT.mk name G (.slice ma zw.length Z) zw).q.okB nx with
    | false => rfl
    | true =>
     have r := awh.1 ho; have r1 : qn name = true := r.nm; have r2 : ah2 G = true := r.lm; unfold ah2 at r2; simp only [jj, qm] at r2
     exact jp ⟨by rw [← hqb.out]; exact r1, r2.1, r2.2⟩ h))
   cases bo
   ·have hz := qq (ai.out (by simp))
    exact agi
   by_cases ah : G < 1
   ·have hz := qq (ai.out (by rintro ⟨-, h, -⟩; omega))
    have hd : decide (G < 1) = true := qp ah; exact agi
   have hd1 : decide (G < 1) = false := qg ah; by_cases bh : 1099511627776 < G
   ·have hz := qq (ai.out (by rintro ⟨-, -, h⟩; omega))
    have hd : decide (1099511627776 < G) = true := qp bh; exact agi
   have hd2 : decide (1099511627776 < G) = false := qg bh; have b3 := qq (show ah2 G = true by unfold ah2; simp only [jj, qm]; omega); clear ai; go_upto_region 8 with (go_at_call 78; (with_reducible refine (acx _ name).mono ?_); rw [hqb.out]; rintro e w3 ⟨rfl, hB3⟩; have hT3 := hBq.trans (hB3.mono hBq.size); have Q3 := Q1.pure hB3; have A3 := Ar.pure hB3; (try clear b0 b1 b2); obtain ⟨d0, d1, d2⟩ := Q3.a3); have b7 := qq (af.out.pure hB3); clear ah bh hd1 hd2 af Q1 Ar hB3 hBq; go_wp2; go_loopw [5, 33] (fun s5 az wr => ∃ k : Nat, k ≤ zw.length ∧ az = .int .i64 k ∧ s5 = .int .u64 (amn zw k) ∧ Hid (∀ j, (h : j < zw.length) → j < k → apj nx zw j h) ∧ Hid (0 ≤ amn zw k) ∧ Below w3.heap.size w3 wr) (fun _ az _ => zw.length - (intOf az).toNat)
   case atStart => exact ⟨0, Nat.zero_le _, rfl, by rw [afp], qq (fun j h h' => jp h' (by omega)), qq (by rw [afp]; omega), qz _ _⟩
   case round =>
    obtain ⟨k, hk, rfl, rfl, bt, ar, F⟩ := hrel; have ae := b7.out.pure F; have ac := hT3.trans (F.mono hT3.size); have A4 := A3.pure F; have Q4 := Q3.pure F; have a0 := A4.at 0 rfl; have q0 := Q4.at 0 rfl; by_cases Y : k < zw.length
    ·have av := qq (fun (h : ¬ apj nx zw k Y) => show qsB nx (qs.map QuT.q) = false from ayl ab (by rw [aw.out]; exact bby (q := ⟨name, G, .slice ma zw.length Z, zw⟩) Y h))
     have am := ae.wf _ (qy Y); obtain ⟨g2, ch, rfl⟩ := ae.s.addrB Y; obtain ⟨id, key, K, red, mid, O, U, us, M, N, I, J, D, E, H, W, c0, c1, c2, c3, c4, c5, c6, c7, c8, c9, ca⟩ := aga ae.s Y (ae.r _ (qy Y)); have au := ae.r _ (qy Y); have aq := afq Y; obtain ⟨la, ao⟩ := qx (amn zw k); have ax := ar.out; rw [ao] at ax; have ar := qq ax; have bu : apj nx zw k Y ↔ la < id ∧ id < nx ∧ (MsT.mk id (PT.mk key K red mid (VT.mk O U us (.slice M D.length N) (.slice I E.length J) D E)) H).m.okB = true := by unfold apj; rw [W, ao]
     rw [W] at am au aq; dsimp only at am au aq; rw [ao]; have ak := qq bu; have bl := qq aq; have b6 := qq am; have aa := qq au; clear bu aq W ao am au ax; go_upto_region 10 with fail; have M0 := Blk.new wr [.int .u64 id, .string key, .bool K, .bool red, .string mid, .int .u8 O, .int .u64 U, .string us, .slice M D.length N, .slice I E.length J, .string H] 60; have A := (qz wr.heap.size wr).alloc (qj _) (.cells #[.int .u64 id, .string key, .bool K, .bool red, .string mid, .int .u8 O, .int .u64 U, .string us, .slice M D.length N, .slice I E.length J, .string H] 60); have A5 := A4.pure A; have Q5 := Q4.pure A; have an := F.trans (A.mono F.size); have aa := qq (aa.out.pure A); generalize wr.heap.size = mb at M0 ⊢; generalize wr.alloc (.cells #[.int .u64 id, .string key, .bool K, .bool red, .string mid, .int .u8 O, .int .u64 U, .string us, .slice M D.length N, .slice I E.length J, .string H] 60) = u5 at M0 A5 Q5 an aa ⊢; clear c0 c1 c2 c3 c4 c5 c6 c7 c8 c9 ca a0 q0 A A4 Q4 F ac; have q0 := Q5.at 0 rfl; obtain ⟨m0, m1, m2, m3, m4, m5, m6, m7, m8, m9, b8⟩ := M0.a11; go_upto_region 11 with fail; have P0 := Blk.new u5 [.string name, .int .u64 id, .string key, .bool K, .bool red, .string mid, .int .u8 O, .int .u64 U, .string us, .slice M D.length N, .slice I E.length J, .string H] 64; have A := (qz u5.heap.size u5).alloc (qj _) (.cells #[.string name, .int .u64 id, .string key, .bool K, .bool red, .string mid, .int .u8 O, .int .u64 U, .string us, .slice M D.length N, .slice I E.length J, .string H] 64); have A6 := A5.pure A; have M6 := M0.pure A; have ag := an.trans (A.mono an.size); have aa := qq (aa.out.pure A); generalize u5.heap.size = pb at P0 ⊢; generalize u5.alloc (.cells #[.string name, .int .u64 id, .string key, .bool K, .bool red, .string mid, .int .u8 O, .int .u64 U, .string us, .slice M D.length N, .slice I E.length J, .string H] 64) = u6 at P0 A6 M6 ag aa ⊢; clear q0 m0 m1 m2 m3 m4 m5 m6 m7 m8 m9 b8 A A5 Q5 M0 an; have a0 := A6.at 0 rfl; have m0 := M6.at 0 rfl; obtain ⟨p0, p1, p2, p3, p4, p5, p6, p7, p8, p9, ce, cg⟩ := P0.a12; have ac := hT3.trans (ag.mono hT3.size); by_cases h1 : id ≤ la
     ·have hz := qq (av.out (fun h => by have := (ak.out.1 h).1; omega))
      have hd : decide (id ≤ la) = true := qp h1; go_wp2; go_ret; exact ⟨by rw [hz.out]; rfl, ac⟩
     have hd1 : decide (id ≤ la) = false := qg h1; by_cases h2 : nx ≤ id
     ·have hz := qq (av.out (fun h => by have := (ak.out.1 h).2.1; omega))
      have hd : decide (nx ≤ id) = true := qp h2; go_wp2; go_ret; exact ⟨by rw [hz.out]; rfl, ac⟩
     have hd2 : decide (nx ≤ id) = false := qg h2; obtain ⟨ok, ad⟩ := qx ((MsT.mk id (PT.mk key K red mid (VT.mk O U us (.slice M D.length N) (.slice I E.length J) D E)) H).m.okB); have bk : 1 ≤ id := by have := ar.out; omega
     have br : (EnT.mk 3 ⟨#[]⟩ 0 (0, ⟨#[]⟩, ⟨#[]⟩) (.slice (some ⟨u6.heap.size, 0, none⟩) 1 1) (.slice none 0 0) [(PtT.mk name id (PT.mk key K red mid (VT.mk O U us (.slice M D.length N) (.slice I E.length J) D E)) H)] []).e.chk = if ok = true then 0 else 130 := by rw [← ad]; exact bdn (m := ⟨id, ⟨key, K, red, mid, VT.mk O U us (.slice M D.length N) (.slice I E.length J) D E⟩, H⟩) hqb.out bk (by show id ≤ _; omega)
     have A := (qz u6.heap.size u6).alloc (qj _) (.cells #[.string name, .int .u64 id, .string key, .bool K, .bool red, .string mid, .int .u8 O, .int .u64 U, .string us, .slice M D.length N, .slice I E.length J, .string H] 64); have bf := ac.trans (A.mono ac.size); have ay := cb (EnT.mk 3 ⟨#[]⟩ 0 (0, ⟨#[]⟩, ⟨#[]⟩) (.slice (some ⟨u6.heap.size, 0, none⟩) 1 1) (.slice none 0 0) [(PtT.mk name id (PT.mk key K red mid (VT.mk O U us (.slice M D.length N) (.slice I E.length J) D E)) H)] []) _ (u6.alloc (.cells #[.string name, .int .u64 id, .string key, .bool K, .bool red, .string mid, .int .u8 O, .int .u64 U, .string us, .slice M D.length N, .slice I E.length J, .string H] 64)) (axa (p := (PtT.mk name id (PT.mk key K red mid (VT.mk O U us (.slice M D.length N) (.slice I E.length J) D E)) H)) (Blk.new u6 [.string name, .int .u64 id, .string key, .bool K, .bool red, .string mid, .int .u8 O, .int .u64 U, .string us, .slice M D.length N, .slice I E.length J, .string H] 64) (aa.out.pure A) b6.out) (hT.pure bf); rw [EnT.arg_mk, br] at ay; have bj := qq ad; have aj := qq ay; clear br ay ad bk; cases ok
     ·have hz := qq (av.out (fun h => by have := (ak.out.1 h).2.2; rw [bj.out] at this; cases this))
      simp only [Bool.false_eq_true, if_false] at aj; go_wp2_with (go_at_call 27; (with_reducible refine aj.out.mono ?_); rintro e w7 ⟨rfl, al⟩; have hF := bf.trans (al.mono bf.size)); go_ret; exact ⟨by rw [hz.out]; rfl, hF⟩
     ·simp only [if_true] at aj
      have b4 := qq (show ∀ j, (h : j < zw.length) → j < k + 1 → apj nx zw j h from fun j h hj => by
       rcases Nat.lt_or_ge j k with q | q
       ·exact bt.out j h q
       ·obtain rfl : j = k := by omega
        exact ak.out.2 ⟨by omega, by omega, bj.out⟩)
      have ah := qq (show 0 ≤ amn zw (k + 1) by rw [bl.out]; have := ar.out; omega); go_wp2_with (go_at_call 27; (with_reducible refine aj.out.mono ?_); rintro e w7 ⟨rfl, al⟩; have hF := (ag.trans (A.mono ag.size)).trans (al.mono (jk ag.size A.size)); have M7 := (M6.pure A).pure al; (clear m0 a0 p0 p1 p2 p3 p4 p5 p6 p7 p8 p9 ce cg); have m0 := M7.at 0 rfl); go_roundw
      case rel => exact ⟨k + 1, by omega, by go_num, by rw [bl.out], b4, ah, hF⟩
      case measure => simp [intOf]; omega
    ·obtain rfl : k = zw.length := by omega
     have bx := qq (show ∀ j, (h : j < qs.length) → j < i + 1 → qs[j].q.okB nx = true from fun j h hj => by
      rcases Nat.lt_or_ge j i with q | q
      ·exact bm.out j h q
      ·obtain rfl : j = i := by omega
       rw [aw.out]
       exact azz (q := ⟨name, G, .slice ma zw.length Z, zw⟩) hqb.out b3.out (fun k hk => bt.out k hk hk))
     have cl : ¬ (zw.length : Int) < (zw.length : Int) := by omega
     clear a0 q0; go_wp2; go_roundw
     case rel => exact ⟨i + 1, by omega, by go_num, bx, ac, A4⟩
     case measure => simp [intOf]; omega
  ·have hz := qq (bbz (n := nx) (qs := qs) (fun j h => bm.out j h (by omega)))
   have a1 := bi.at 1 rfl; go_wp2_with (go_at_call 112; (with_reducible refine (b5.out _ F).mono ?_); rintro e w2 ⟨rfl, cd⟩; have hF := F.trans (cd.mono F.size)); go_ret; exact ⟨by rw [hz.out]; rfl, hF⟩
open Go.RowKit Go.ChangeMaps Go.MapKept Tryz
section
variable {κ ε : Type} {P : Program} {t k e : TypeId} {kv : κ → Value} {kl : κ → Lit} {ok : κ → Prop} {ev : ε → Value} {dec : Value → Option ε} {z : ε} {w : World} {b cnt : Nat} {h : κ → Option ε}
theorem MapG.drew (M : MapG P k kl ok dec w b h cnt) : MapG P k kl ok dec w.drew b h cnt := M
theorem MapG.look_run (T : MapT P t k e kv kl ok ev dec z) (M : MapG P k kl ok dec w b h cnt) {u : κ} (A : ok u) : (Instr.lookup t (.map (some b)) (kv u) false).run P w = .ok (ev ((h u).getD z)) w := by
 obtain ⟨D, G, I, H⟩ := M
 obtain ⟨v, ps, E, F⟩ := G.lookup T.K T.ht (T.hz w) (zd := .held z) (zp := []) (by simp [avp, T.de]) (T.hkey u A)
 rw [E, MapG.elem T (H u A) F]
variable [DecidableEq κ]
theorem MapG.put_run (T : MapT P t k e kv kl ok ev dec z) (M : MapG P k kl ok dec w b h cnt) (U : cnt < maxLen) {u : κ} (A : ok u) (y : ε) :
 ∃ w', (Instr.mapUpdate t (.map (some b)) (kv u) (ev y)).run P w = .ok () w' ∧ MapG P k kl ok dec w' b (fun i => if i = u then some y else h i) (if (h u).isSome then cnt else cnt + 1) ∧ w.grownBy w' (some b) := by
 obtain ⟨D, E, I, F⟩ := M
 obtain ⟨w', J, N, O⟩ := E.update T.K T.ht U (val := ev y) (T.hkey u A) (d := .held y) (ps := []) (by simp [avp, T.de])
 have G := Maps.size_put (k := kl u) (E.tidy T.K) (.held y)
 refine ⟨w', J, ⟨_, ?_, ?_, MapG.put_law T E F A y⟩, O⟩
 ·have H := bbe N
  rw [G, (F u A).1, I] at H; exact H
 ·rw [G, (F u A).1, I]
end
section
variable {κ ε : Type} {P : Program} {t k e : TypeId} {kv : κ → Value} {kl : κ → Lit} {ok : κ → Prop} {ev : ε → Value} {dec : Value → Option ε} {z : ε} {w : World} {b cnt : Nat} {h : κ → Option ε}
theorem aro (K : WideMaps.KeyLaw P k) (G : P.underlying t = some (.map k e)) {N : Value} (Z : ∀ u : World, (zeroValue e).run P u = .ok N u) {E : Array MapEntry} {H : Nat} (A : w.heap[b]? = some (.map E H))
 (aa : ∀ x ∈ E.toList, ∃ l, keyOf P k x.key = some l) {key : Value} {kl : Lit} (D : keyOf P k key = some kl) :
 ∃ (O : Value) (st : Nat) (Y : World), (Instr.mapEntry t (.map (some b)) key).run P w = .ok (.tuple #[O, goInt st]) Y ∧ (Instr.mapUpdate t (.map (some b)) key O).run P w = .ok () Y ∧ (Instr.lookup t (.map (some b)) key false).run P w = .ok O w := by
 rcases K.find w D E.toList aa with ⟨F, J⟩ | ⟨j, M, F, J, W⟩
 ·refine ⟨N, H, setBlock w b (.map (E.push ⟨key, N, H⟩) (H + 1)), ?_, ?_, ?_⟩
  ·simp [Instr.mapEntry, run_underlying G, MapKept.run_getObj_map A, K.check w false D, F, Z, MapKept.run_setObj_map _ A, Result.andThen, setBlock]
  ·simp [Instr.mapUpdate, run_underlying G, MapKept.run_getObj_map A, K.check w false D, F, MapKept.run_setObj_map _ A, Result.andThen, setBlock]
  ·simp [Instr.lookup, run_underlying G, MapKept.run_getObj_map A, K.check w _ D, F, Z, Result.andThen]
 ·have U : E[j]? = some M := by simpa using J
  have e1 : E.modify j (fun I => { I with key := key, val := M.val }) = E.modify j (fun I => { I with key := key }) := by
   apply Array.ext'; rw [Array.toList_modify, Array.toList_modify, modify_eq_set _ _ _ _ J, modify_eq_set _ _ _ _ J]
  refine ⟨M.val, M.born, setBlock w b (.map (E.modify j (fun I => { I with key := key })) H), ?_, ?_, ?_⟩
  ·simp [Instr.mapEntry, run_underlying G, MapKept.run_getObj_map A, K.check w false D, F, U, W, K.stays w D, MapKept.run_setObj_map _ A, Result.andThen, setBlock]
  ·simp [Instr.mapUpdate, run_underlying G, MapKept.run_getObj_map A, K.check w false D, F, U, W, K.stays w D, MapKept.run_setObj_map _ A, Result.andThen, setBlock, e1]
  ·simp [Instr.lookup, run_underlying G, MapKept.run_getObj_map A, K.check w _ D, F, Result.andThen]
variable [DecidableEq κ]
theorem MapG.entry_run (T : MapT P t k e kv kl ok ev dec z) (W : WideMaps.KeyLaw P k) (M : MapG P k kl ok dec w b h cnt) (hn : cnt < maxLen) {u : κ} (H : ok u) :
 ∃ (E : Nat) (A : World), (Instr.mapEntry t (.map (some b)) (kv u)).run P w = .ok (.tuple #[ev ((h u).getD z), .int .i64 E]) A ∧ MapG P k kl ok dec A b (fun i => if i = u then some ((h u).getD z) else h i) (if (h u).isSome then cnt else cnt + 1) ∧ w.grownBy A (some b) ∧
  ∀ (y : ε), ∃ J, (Instr.entryStore t (.map (some b)) (.int .i64 E) (ev y)).run P A = .ok () J ∧ MapG P k kl ok dec J b (fun i => if i = u then some y else h i) (if (h u).isSome then cnt else cnt + 1) ∧ w.grownBy J (some b) := by
 have N := M.look_run T H
 have O := fun y => M.put_run T hn H y
 obtain ⟨ah, ⟨es, ag, K, F, hs, -⟩, -, -⟩ := M
 obtain ⟨v0, E, A, U, a2, a3⟩ := aro (w := w) W T.ht T.hz K F.keys (T.hkey u H)
 obtain ⟨af, ad, ae, Z, D, -, b3⟩ := WideElems.entry_then_store W T.ht T.hz K F (T.hkey u H)
 rw [U] at D
 injection D with D b1w
 injection D with D
 have c1 : v0 = af := by have := congrArg (fun a => a[0]?) D; simpa using this
 have c2 : goInt E = goInt ad := by have := congrArg (fun a => a[1]?) D; simpa using this
 rw [a3] at N
 injection N with hv0
 obtain ⟨wp, G, p2, p3⟩ := O ((h u).getD z)
 rw [← hv0, a2] at G
 injection G with _ G
 refine ⟨E, A, by rw [U, hv0]; rfl, by rw [G]; exact p2, by rw [G]; exact p3, fun y => ?_⟩
 obtain ⟨Y, q1, q2, q3⟩ := O y
 have ac : A.heap[b]? = some (.map ae Z) := by
  rw [b1w]; exact heap_setBlock_same K _
 obtain ⟨ab, aa, r1, I⟩ := b3 A (ev y) ac
 rw [q1] at I
 injection I with _ I
 refine ⟨Y, ?_, q2, q3⟩
 have : setBlock A b (.map ab aa) = Y := by rw [I, b1w]; unfold setBlock; simp
 rw [← this, ← r1, ← c2]; rfl
end
open Go.Maps (Keyed)
instance : DecidableEq Rf := fun a b => by
 obtain ⟨p, q⟩ := a
 obtain ⟨r, s⟩ := b
 exact if h : p.toList = r.toList ∧ q = s then .isTrue (by rw [toList_inj h.1, h.2]) else .isFalse (fun e => h (by injection e with e1 e2; exact ⟨by rw [e1], e2⟩))
def kvR (r : Rf) : Value := .agg #[.string r.q, .int .u64 r.id]
def klR (r : Rf) : Lit := .string (keyBytes [.string r.q.data.toList, .int .u64 r.id])
def okR (r : Rf) : Prop := r.q.size ≤ maxLen ∧ 0 ≤ r.id ∧ r.id < 18446744073709551616
def evN (n : Int) : Value := .int .i64 n
def bdo : Value → Option Int
 | .int .i64 n => some n
 | _ => none
theorem bb0 : laidOutB prog = true := by kernel_rfl
theorem bb1 : 68 < prog.types.size := qt (by kernel_rfl)
theorem refs_law : WideMaps.KeyLaw prog 68 := deep_law_laid bb0 (m := 2) (by omega) bb1 (by kernel_rfl) (by kernel_rfl)
theorem arp : ∃ A, prog.underlying 68 = some (.struct A) := ⟨_, underlying68⟩
theorem arq (r : Rf) : (kvR r).formed prog 68 = true := by
 have A : prog.cellsOf 68 = 2 := by kernel_rfl
 obtain ⟨E, D⟩ := arp
 simp [kvR, Value.formed, D, A]
theorem apk (r : Rf) (h : okR r) : keyOf prog 68 (kvR r) = some (klR r) := by
 have F : prog.keyType 68 = true := by kernel_rfl
 have E : prog.cellsOf 68 = 2 := by kernel_rfl
 have D : prog.cellsOf 9 = 1 := by kernel_rfl
 have A : prog.cellsOf 22 = 1 := by kernel_rfl
 have I : ∀ m, prog.keyLits (m + 2) 68 [.string r.q, .int .u64 r.id] = some [.string r.q.data.toList, .int .u64 r.id] := fun m => by
  obtain ⟨a, b, c⟩ := h; have J : IntKind.u64.min ≤ r.id := b
  have G : r.id ≤ IntKind.u64.max := by
   have : IntKind.u64.max = 18446744073709551615 := by decide
   omega
  simp [Program.keyLits, underlying68, underlying9, underlying22, E, D, A, a, Lit.wf, J, G]
 have hs : 1 ≤ prog.types.size := Nat.lt_of_le_of_lt (Nat.zero_le _) bb1
 obtain ⟨m, H⟩ : ∃ m, prog.types.size + 1 = m + 2 := ⟨prog.types.size - 1, by omega⟩
 unfold keyOf
 simp only [underlying68, F, arq r, H]
 rw [show (kvR r).cells.toList = [.string r.q, .int .u64 r.id] from rfl, I m]
 rfl
theorem az0 {a b : Rf} (h : kvR a = kvR b) : a = b := by
 unfold kvR at h
 simp at h
 obtain ⟨p, q⟩ := a
 obtain ⟨r, s⟩ := b
 obtain ⟨A, D⟩ := h
 subst D
 have : p = r := A
 rw [this]
theorem arr : MapT prog 145 68 3 kvR klR okR evN bdo 0 where
 ht := underlying145
 K := Keyed.of_law refs_law
 hkey := apk
 inj := fun x y A hy h => az0 (refs_law.inj (apk x A) (by rw [h]; exact apk y hy))
 de := fun y => rfl
 ed := fun v y h => by
  unfold bdo at h; split at h
  ·injection h with h; subst h; rfl
  ·cases h
 hz := fun w => by kernel_rfl
abbrev RefsM (w : World) (b : Nat) (h : Rf → Option Int) (cnt : Nat) : Prop := MapG prog 68 klR okR bdo w b h cnt
def aib (L : List Rf) (r : Rf) : Option Int := if aa8 L r = 0 then none else some (aa8 L r)
theorem ail (L : List Rf) (r : Rf) : (aib L r).getD 0 = aa8 L r := by unfold aib; split <;> simp_all
theorem axd (L : List Rf) (r i : Rf) : (if i = r then some ((aa8 L r : Int) + 1) else aib L i) = aib (L ++ [r]) i := by
 unfold aib
 rw [aa6, acw, adb]
 by_cases e : i = r
 ·subst e
  rw [qw rfl, qw (abt.2 rfl), qk (by omega)]; congr 1
 ·rw [qk e, qk (fun q => e (abt.1 q).symm)]
  simp
end Go.Proofs.YtgnaifhmcllnlaaGreatDoor
