/- work.whole; blocks of eight cells. Conditions: none. (Texts joined.) -/
import Derived.Test.YtgnaifhmcllnlaaGreatDoorB04
set_option maxRecDepth 100000
set_option maxHeartbeats 12800000
set_option linter.unusedSimpArgs false
set_option linter.unusedVariables false
namespace Go.Proofs.YtgnaifhmcllnlaaGreatDoor
open Go.RowKit Tryz
theorem alg (w : World) (a b c : Bool) : Slc ajf 1 (w.alloc (.cells #[.bool a, .bool b, .bool c] 4)) (.slice (some ⟨w.heap.size, 0, none⟩) 3 3) [a, b, c] := by
 refine .inr ⟨w.heap.size, 0, 3, rfl, qj _, by unfold maxLen; omega, fun i hi j u A => ?_⟩
 have D := Blk.new w [.bool a, .bool b, .bool c] 4
 match i, hi, j, A with
 | 0, _, 0, A => exact (D.cell 0).trans A
 | 1, _, 0, A => exact (D.cell 1).trans A
 | 2, _, 0, A => exact (D.cell 2).trans A
theorem ahh (w : World) (a b : Bool) : Slc ajf 1 (w.alloc (.cells #[.bool a, .bool b] 4)) (.slice (some ⟨w.heap.size, 0, none⟩) 2 2) [a, b] := by
 refine .inr ⟨w.heap.size, 0, 2, rfl, qj _, by unfold maxLen; omega, fun i hi j u A => ?_⟩
 have D := Blk.new w [.bool a, .bool b] 4
 match i, hi, j, A with
 | 0, _, 0, A => exact (D.cell 0).trans A
 | 1, _, 0, A => exact (D.cell 1).trans A
theorem ag2 (w : World) (s : ByteArray) : Slc abv 1 (w.alloc (.cells #[.string s] 9)) (.slice (some ⟨w.heap.size, 0, none⟩) 1 1) [s] := by
 refine .inr ⟨w.heap.size, 0, 1, rfl, qj _, by unfold maxLen; omega, fun i hi j u A => ?_⟩
 have D := Blk.new w [.string s] 9
 match i, hi, j, A with
 | 0, _, 0, A => exact (D.cell 0).trans A
theorem bcv (key mid : ByteArray) (A red : Bool) (v : V) : acy [A, red, !key.toList.isEmpty] = fl1 ⟨key, A, red, mid, v⟩ := by
 unfold fl1
 by_cases D : key.size = 0
 ·have := agt D
  cases A <;> cases red <;> simp [D, this, acy]
 ·have := aeg (show 0 < key.size by omega)
  cases A <;> cases red <;> simp [D, this, acy]
theorem bcw (key mid : ByteArray) (F red E : Bool) (v : V) (G : E = decide (v.kind = 168)) : acy [!mid.toList.isEmpty, E] = fl2 ⟨key, F, red, mid, v⟩ := by
 subst G
 unfold fl2
 by_cases A : mid.size = 0
 ·have := agt A
  by_cases D : v.kind = 168 <;> simp [A, this, D, acy]
 ·have := aeg (show 0 < mid.size by omega)
  by_cases D : v.kind = 168 <;> simp [A, this, D, acy]
theorem bcy (b c : Bool) : (bits BinOp.and IntKind.u64 ((acy [b, c] : Nat) : Int) 2 != 0) = c := by cases b <;> cases c <;> rfl
theorem alh {P : Prop} (h : P := by
 refine hK.out _ _ hb (fun zg => ?_)
 clear hK K
 (try simp only [Act.put, lsT, lsZ, lsS])
 refine aai 13 rfl (fun K hK => ?_)
 go_simp
 have q4 := q3.pure hb'
 go_at_call 162
 refine (aox _ w.heap.size w2.heap.size _ _ [] key n1 q4 Own.nil s23 hkey.out hn1l.out (by simp)).mono ?_
 rintro e w5 ⟨rfl, r5, Q5, O5, hB5⟩
 have hb := hb.trans hB5
 refine hK.out _ _ hb (fun zg => ?_)
 clear hK K
 (try simp only [Act.put, lsT, lsZ, lsS])
 refine wpAnyH_done (by kernel_rfl) ?_ _
 go_wp2_with fail
 go_meet
 exact ⟨r5, Q5, O5.cast ((List.nil_append _).trans hl5h.out), hb⟩) : P := h
theorem aji {P : Prop} (h : P := by
 have hb := hb'.mono hq1.out
 refine hK.out _ _ hb (fun zg => ?_)
 clear hK K
 (try simp only [Act.put, lsT, lsZ, lsS])
 refine aai 9 rfl (fun K hK => ?_)
 go_simp
 go_at_call 166
 refine (ag1 _ _ _ s19 (by simp)).mono ?_
 rintro e w4 ⟨he, hB4⟩
 rw [hn1h.out] at he
 subst he
 have hb' := hb'.trans (hB4.mono hb'.size)
 have hb := hb'.mono hq1.out
 have s23 := s23.pure hB4
 exact alh) : P := h
theorem ajj (t : PT) (P : Nat → Prop) (w : World) (hR : Rd P w t.app) (hT : Tb w) : Calls prog 134 #[t.arg] w fun e w' => e = .returned (.tuple #[.string (if t.p.chk = 0 then t.p.text else ⟨#[]⟩), .int .i64 t.p.chk]) ∧ Below w.heap.size w w' := by
 obtain ⟨key, G, red, mid, tv⟩ := t
 have hR : Rd _ _ tv := hR
 obtain ⟨E, U, O, N, J, M, I, A, D, rfl, -⟩ := hR.open
 have ai := (qz w.heap.size w).alloc (qj _) (.cells #[.string key, .bool G, .bool red, .string mid, .int .u8 E, .int .u64 U, .string O, .slice N A.length J, .slice M D.length I] 58)
 have A1 := Blk.new w [.string key, .bool G, .bool red, .string mid, .int .u8 E, .int .u64 U, .string O, .slice N A.length J, .slice M D.length I] 58
 have R1 := hR.pure ai
 obtain ⟨Y, az⟩ := qx ((PT.mk key G red mid (VT.mk E U O (.slice N A.length J) (.slice M D.length I) A D)).p)
 obtain ⟨cx, ay⟩ := qx Y.chk
 have bj := (aow (PT.mk key G red mid (VT.mk E U O (.slice N A.length J) (.slice M D.length I) A D)) P _ R1 (hT.pure ai))
 rw [az, ay, PT.arg_mk] at bj
 rw [az, ay, PT.arg_mk]
 have bo := qq bj
 have ag := qq (show Y = Pr.mk key G red mid (VT.mk E U O (.slice N A.length J) (.slice M D.length I) A D).v from az.symm)
 have bc := qq ay
 clear bj az ay
 obtain ⟨a0, a1, a2, a3, a4, a5, a6, a7, a8⟩ := A1.a9
 go_enter func134, ntmps134
 by_cases h0 : cx = 0
 rotate_left 1
 ·have h1 : (cx == 0) = false := ju.2 h0
  have h2 : (cx != 0) = true := bne_iff_ne.2 h0; have b5 := qq (show cx = 90 by rcases bat Y with e | e; exact jp (bc.out.symm.trans e) h0; exact bc.out.symm.trans e); rw [qk h0]; clear h0; go_wp2_with (go_at_call 161; refine (bo.out).mono ?_; rintro e w2 ⟨rfl, ah⟩; have aq := ai.trans (ah.mono ai.size)); go_ret2; exact ⟨by rw [b5.out]; rfl, aq⟩
 subst h0
 have au := akr.1 bc.out
 have hkey := qq (show key.size ≤ 255 by have := au.1; rw [ag.out] at this; exact this)
 have bp := qq (show mid.size ≤ 255 by have := au.2.1; rw [ag.out] at this; exact this)
 have bw := qq (show (VT.mk E U O (.slice N A.length J) (.slice M D.length I) A D).v = V.zero ∨ E = 168 ∧ (VT.mk E U O (.slice N A.length J) (.slice M D.length I) A D).v.chk = 0 by have := au.2.2; rw [ag.out] at this; rcases this with e | e; exact .inl e; exact .inr ⟨by rw [← (ate : (VT.mk E U O (.slice N A.length J) (.slice M D.length I) A D).v.kind = E)]; exact e.1, e.2⟩)
 clear au
 rw [qw rfl]
 go_upto_region 5 with (go_at_call 161; refine (bo.out).mono ?_; rintro e w2 ⟨rfl, ah⟩; have A2 := A1.pure ah; have R2 := R1.pure ah; have aq := ai.trans (ah.mono ai.size); clear a0 a1 a2 a3 a4 a5 a6 a7 a8; have bi := (qz w2.heap.size w2).alloc (qj _) (.cells #[.slice none 0 0] 189); have A3 := A2.pure bi; have q3 := Blk.new w2 [.slice none 0 0] 189)
 have b9 : (w2.alloc (.cells #[.slice none 0 0] 189)).heap.size = w2.heap.size + 1 := by simp
 have av := qq (show w.heap.size < w2.heap.size by have h1 := ah.size; simp at h1; omega)
 have b6 := aq.trans (bi.mono aq.size)
 generalize World.alloc w2 (.cells #[.slice none 0 0] 189) = W3 at *
 obtain ⟨n1, ax⟩ := qx (acy [G, red, !key.toList.isEmpty])
 have hn1h := qq ax
 have hn1l := qq (show n1 < 256 by have := aff [G, red, !key.toList.isEmpty]; rw [ax] at this; simp at this; omega)
 have b2 := qq (show aoh Y = [4, 1, 0, UInt8.ofNat n1] ++ stx key by rw [ag.out, ← ax, bcv key mid G red (VT.mk E U O (.slice N A.length J) (.slice M D.length I) A D).v]; rfl)
 have hq1 := qq (show w2.heap.size ≤ W3.heap.size by omega)
 have an := qq (fun (u : World) (h : Below w2.heap.size W3 u) => A3.below h av.out)
 have b1 := qq (fun (u : World) (h : Below w2.heap.size W3 u) => R2.pure (bi.trans h))
 have hb' := qz W3.heap.size W3
 clear ax b9
 obtain ⟨l5, bl⟩ := qx (part ([4, 1, 0, UInt8.ofNat n1] ++ stx key))
 have hl5h := qq bl
 have bn := qq (show l5.length ≤ 400 by rw [← bl, awd]; have h1 := aom key; have h2 := hkey.out; simp only [jz, jn, List.length_nil]; omega)
 clear bl
 go_cut [] from 7 (fun wx => ∃ r5, Blk wx w2.heap.size [r5] ∧ Own (w2.heap.size + 1) 5 1 aax wx r5 l5 ∧ Below w2.heap.size W3 wx)
 case first =>
  have hb := (abn W3).mono hq1.out; refine wp_region_held_drew (S := fun u => Below w2.heap.size W3 u) (by kernel_rfl) hb (fun zg => ?_); refine tkH 0 zg ?_; refine tkH 1 zg ?_; refine tkF 2 zg ?_ (fun u af => (an.out u af).at 1 rfl); refine tkH 3 zg ?_; refine tkF 4 zg ?_ (fun u af => (an.out u af).at 2 rfl); refine tkH 5 zg ?_; refine tkF 6 zg ?_ (fun u af => (an.out u af).at 0 rfl); refine tkH 7 zg ?_; refine tkH 10 zg ?_; refine tkF 11 zg ?_ (fun u af => (an.out u af).at 0 rfl); refine wpAnyH_ready (rs := [8, 12]) (by kernel_rfl) (by simp) ?_; refine (AllReadyH.cons rfl (fun K hK => ?_) (AllReadyH.cons rfl (fun K hK => ?_) AllReadyH.nil))
  ·go_simp
   have aa : Below W3.heap.size W3 (World.drew (World.alloc W3 (.cells #[.bool G, .bool red, .bool !key.toList.isEmpty] 4))) := (aad ((qz W3.heap.size W3).alloc (qj _) (.cells #[.bool G, .bool red, .bool !key.toList.isEmpty] 4))); have s19 : Slc ajf 1 (World.drew (World.alloc W3 (.cells #[.bool G, .bool red, .bool !key.toList.isEmpty] 4))) (.slice (some ⟨(World.heap W3).size, 0, none⟩) 3 3) [G, red, !key.toList.isEmpty] := (alg W3 G red (!key.toList.isEmpty)).pure (abn _); have hb' := hb'.trans (aa.mono hb'.size); generalize (World.drew (World.alloc W3 (.cells #[.bool G, .bool red, .bool !key.toList.isEmpty] 4))) = V1 at *; have hb := hb'.mono hq1.out; refine hK.out _ _ hb (fun zg => ?_); clear hK K; (try simp only [Act.put, lsT, lsZ, lsS]); refine wpAnyH_ready (rs := [9, 12]) (by kernel_rfl) (by simp) ?_; refine (AllReadyH.cons rfl (fun K hK => ?_) (AllReadyH.cons rfl (fun K hK => ?_) AllReadyH.nil))
   ·go_simp
    go_at_call 166; refine (ag1 _ _ _ s19 (by simp)).mono ?_; rintro e w4 ⟨he, hB4⟩; rw [hn1h.out] at he; subst he; have hb' := hb'.trans (hB4.mono hb'.size); have hb := hb'.mono hq1.out; refine hK.out _ _ hb (fun zg => ?_); clear hK K; (try simp only [Act.put, lsT, lsZ, lsS]); refine aai 12 rfl (fun K hK => ?_); go_simp; have aa : Below w4.heap.size w4 (World.alloc w4 (.cells #[.string key] 9)) := ((qz w4.heap.size w4).alloc (qj _) (.cells #[.string key] 9)); have s23 : Slc abv 1 (World.alloc w4 (.cells #[.string key] 9)) (.slice (some ⟨(World.heap w4).size, 0, none⟩) 1 1) [key] := ag2 w4 key; have hb' := hb'.trans (aa.mono hb'.size); generalize (World.alloc w4 (.cells #[.string key] 9)) = V2 at *; have hb := hb'.mono hq1.out; exact alh
   ·go_simp
    have aa : Below V1.heap.size V1 (World.alloc V1 (.cells #[.string key] 9)) := ((qz V1.heap.size V1).alloc (qj _) (.cells #[.string key] 9)); have s23 : Slc abv 1 (World.alloc V1 (.cells #[.string key] 9)) (.slice (some ⟨(World.heap V1).size, 0, none⟩) 1 1) [key] := ag2 V1 key; have s19 := s19.pure aa; have hb' := hb'.trans (aa.mono hb'.size); generalize (World.alloc V1 (.cells #[.string key] 9)) = V2 at *; exact aji
  ·go_simp
   have aa : Below W3.heap.size W3 (World.drew (World.alloc W3 (.cells #[.string key] 9))) := (aad ((qz W3.heap.size W3).alloc (qj _) (.cells #[.string key] 9))); have s23 : Slc abv 1 (World.drew (World.alloc W3 (.cells #[.string key] 9))) (.slice (some ⟨(World.heap W3).size, 0, none⟩) 1 1) [key] := (ag2 W3 key).pure (abn _); have hb' := hb'.trans (aa.mono hb'.size); generalize (World.drew (World.alloc W3 (.cells #[.string key] 9))) = V1 at *; have hb := hb'.mono hq1.out; refine hK.out _ _ hb (fun zg => ?_); clear hK K; (try simp only [Act.put, lsT, lsZ, lsS]); refine aai 8 rfl (fun K hK => ?_); go_simp; have aa : Below V1.heap.size V1 (World.alloc V1 (.cells #[.bool G, .bool red, .bool !key.toList.isEmpty] 4)) := ((qz V1.heap.size V1).alloc (qj _) (.cells #[.bool G, .bool red, .bool !key.toList.isEmpty] 4)); have s19 : Slc ajf 1 (World.alloc V1 (.cells #[.bool G, .bool red, .bool !key.toList.isEmpty] 4)) (.slice (some ⟨(World.heap V1).size, 0, none⟩) 3 3) [G, red, !key.toList.isEmpty] := alg V1 G red (!key.toList.isEmpty); have s23 := s23.pure aa; have hb' := hb'.trans (aa.mono hb'.size); generalize (World.alloc V1 (.cells #[.bool G, .bool red, .bool !key.toList.isEmpty] 4)) = V2 at *; exact aji
 case rest =>
  obtain ⟨r5, Q5, O5, hb⟩ := hcut; obtain ⟨ca, cc, rfl⟩ := aap O5; have A5 := an.out _ hb; obtain ⟨a0, a1, a2, a3, a4, a5, a6, a7, a8⟩ := A5.a9; have aj := b6.trans (hb.mono (Nat.le_of_lt av.out)); have bh := qq (fun (u : World) (h : Below w2.heap.size W3 u) => b1.out u h); have bg := qq (show Y.text = ⟨(l5 ++ (if fl2 Y = 0 then [] else part (ahf Y))).toArray⟩ by unfold Pr.text Pr.bytes; rw [b2.out, hl5h.out]); have bt := fun (b : Bool) (hb : b = decide (E = 168)) => show acy [!mid.toList.isEmpty, b] = fl2 Y by rw [ag.out]; exact bcw key mid G red b _ (by rw [(ate : (VT.mk E U O (.slice N A.length J) (.slice M D.length I) A D).v.kind = E)]; exact hb)
  have br := qq (show ahf Y = [4, 3, 0, UInt8.ofNat (fl2 Y)] ++ stx mid ++ (if E = 168 then (VT.mk E U O (.slice N A.length J) (.slice M D.length I) A D).v.bytes else []) by rw [ag.out]; unfold ahf; simp only [(ate : (VT.mk E U O (.slice N A.length J) (.slice M D.length I) A D).v.kind = E)]); have bq := qq bt; clear bt; by_cases hk : E = 168
  ·subst hk
   have b3 := qq (show (VT.mk 168 U O (.slice N A.length J) (.slice M D.length I) A D).v.chk = 0 by
    rcases bw.out with e | e
    ·have := congrArg V.kind e
     rw [ate] at this; exact jp this (by decide)
    ·exact e.2)
   have Z := bq.out true rfl; obtain ⟨H, F⟩ := qx (acy [!mid.toList.isEmpty, true]); have ak := qq F; have ar := qq (show H < 256 by have := aff [!mid.toList.isEmpty, true]; rw [F] at this; simp at this; omega); have ae := qq (show fl2 Y = H by rw [← F]; exact Z.symm); have aw := qq (show (bits BinOp.and IntKind.u64 (H : Int) 2 != 0) = true by rw [← F]; exact bcy _ _); have bu : ((H : Int) != 0) = true := by rw [← F]; cases mid.toList.isEmpty <;> rfl
   have am : ¬ (H : Int) = 0 := by rw [← F]; cases mid.toList.isEmpty <;> decide
   have ao := ahh wc (!mid.toList.isEmpty) true; have W := (qz wc.heap.size wc).alloc (qj _) (.cells #[.bool !mid.toList.isEmpty, .bool true] 4); have ab := aj.trans (W.mono aj.size); have A6 := A5.pure W; have Q6 := Q5.pure W; have O6 := O5.pure W; have R6 := (bh.out _ hb).pure W; clear F Z; go_upto_region 7 with (go_at_call 166; refine (ag1 _ _ _ ao (by simp)).mono ?_; rintro e w7 ⟨he, X⟩; rw [ak.out] at he; subst he; have A7 := A6.pure X; have Q7 := Q6.pure X; have O7 := O6.pure X; have R7 := R6.pure X; have ad := ab.trans (X.mono ab.size)); clear a0 a1 a2 a3 a4 a5 a6 a7 a8; have bx := qq (show w2.heap.size ≤ w7.heap.size by have := Q7.lt; omega); obtain ⟨a0, a1, a2, a3, a4, a5, a6, a7, a8⟩ := A7.a9; have z := (qz w7.heap.size w7).alloc (qj _) (.cells #[.string mid] 9); have A8 := A7.pure z; have Q8 := Q7.pure z; have O8 := O7.pure z; have R8 := R7.pure z; have s8 := ag2 w7 mid; have al := ad.trans (z.mono ad.size); have bb := hT.pure al; have bf : true = true → (VT.mk 168 U O (.slice N A.length J) (.slice M D.length I) A D).v.chk = 0 := fun _ => b3.out
   go_upto_region 9 with (go_at_call 162; refine (ajh _ w.heap.size w2.heap.size _ _ l5 mid H Q8 O8 s8 bp.out ar.out (by have := bn.out; omega) key mid G red 168 U O N J M I A D _ true A8 R8 bb aw.out bf).mono ?_; rintro e w9 ⟨rfl, r9, Q9, O9, bk⟩; have bm := al.trans (bk.mono (Nat.le_of_lt av.out))); obtain ⟨l9, ac⟩ := qx (l5 ++ part ([4, 3, 0, UInt8.ofNat H] ++ stx mid ++ (if true = true then (VT.mk 168 U O (.slice N A.length J) (.slice M D.length I) A D).v.bytes else []))); have ba := qq ac; have O9 := O9.cast ac; obtain ⟨b7, b0, rfl⟩ := aap O9; have b4 := Q9.at 0 rfl; have cv := aif w9 _ l9 (O9.slc aaa); clear ac; have bd := qq (show Y.text = ⟨l9.toArray⟩ by rw [bg.out, ae.out, qk (by have := am; omega), br.out, ae.out, ← ba.out]; rfl); go_wp2; go_ret2; exact ⟨by rw [bd.out]; rfl, bm⟩
  ·have h3 : decide (E = 168) = false := qg hk
   have h4 : (E == 168) = false := ju.2 hk; have Z := bq.out false h3.symm; have b8 := qq hk; clear hk; by_cases hm : mid.size = 0
   ·obtain rfl : mid = ⟨#[]⟩ := af5 hm
    have Z : acy [false, false] = fl2 Y := by rw [show (⟨#[]⟩ : ByteArray).toList.isEmpty = true from agt rfl] at Z; exact Z
    clear hm; obtain ⟨H, F⟩ := qx (acy [false, false]); have ak := qq F; have ar := qq (show H < 256 by have := aff [false, false]; rw [F] at this; simp at this; omega); have ae := qq (show fl2 Y = H by rw [← F]; exact Z.symm); have aw := qq (show (bits BinOp.and IntKind.u64 (H : Int) 2 != 0) = false by rw [← F]; exact bcy _ _); have bu : ((H : Int) != 0) = false := by rw [← F]; rfl
    have am : (H : Int) = 0 := by rw [← F]; decide
    have ao := ahh wc false false; have W := (qz wc.heap.size wc).alloc (qj _) (.cells #[.bool false, .bool false] 4); have ab := aj.trans (W.mono aj.size); have A6 := A5.pure W; have Q6 := Q5.pure W; have O6 := O5.pure W; have R6 := (bh.out _ hb).pure W; clear F Z; go_upto_region 7 with (go_at_call 166; refine (ag1 _ _ _ ao (by simp)).mono ?_; rintro e w7 ⟨he, X⟩; rw [ak.out] at he; subst he; have A7 := A6.pure X; have Q7 := Q6.pure X; have O7 := O6.pure X; have R7 := R6.pure X; have ad := ab.trans (X.mono ab.size)); clear a0 a1 a2 a3 a4 a5 a6 a7 a8; have cb := Q7.at 0 rfl; have cv := aif w7 _ l5 (O7.slc aaa); go_wp2; go_ret2; exact ⟨by rw [bg.out, ae.out, qw (by have := am; omega), List.append_nil]; rfl, ad⟩
   ·have h1 : ¬ mid.toList = [] := fun e => hm (by rw [← acr, e]; rfl)
    have h2 := aeg (show 0 < mid.size by omega); rw [h2] at Z; have Z : acy [true, false] = fl2 Y := Z; clear hm; obtain ⟨H, F⟩ := qx (acy [true, false]); have ak := qq F; have ar := qq (show H < 256 by have := aff [true, false]; rw [F] at this; simp at this; omega); have ae := qq (show fl2 Y = H by rw [← F]; exact Z.symm); have aw := qq (show (bits BinOp.and IntKind.u64 (H : Int) 2 != 0) = false by rw [← F]; exact bcy _ _); have bu : ((H : Int) != 0) = true := by rw [← F]; rfl
    have am : ¬ (H : Int) = 0 := by rw [← F]; decide
    have ao := ahh wc true false; have W := (qz wc.heap.size wc).alloc (qj _) (.cells #[.bool true, .bool false] 4); have ab := aj.trans (W.mono aj.size); have A6 := A5.pure W; have Q6 := Q5.pure W; have O6 := O5.pure W; have R6 := (bh.out _ hb).pure W; clear F Z; go_upto_region 7 with (go_at_call 166; refine (ag1 _ _ _ ao (by simp)).mono ?_; rintro e w7 ⟨he, X⟩; rw [ak.out] at he; subst he; have A7 := A6.pure X; have Q7 := Q6.pure X; have O7 := O6.pure X; have R7 := R6.pure X; have ad := ab.trans (X.mono ab.size)); clear a0 a1 a2 a3 a4 a5 a6 a7 a8; have bx := qq (show w2.heap.size ≤ w7.heap.size by have := Q7.lt; omega); obtain ⟨a0, a1, a2, a3, a4, a5, a6, a7, a8⟩ := A7.a9; have z := (qz w7.heap.size w7).alloc (qj _) (.cells #[.string mid] 9); have A8 := A7.pure z; have Q8 := Q7.pure z; have O8 := O7.pure z; have R8 := R7.pure z; have s8 := ag2 w7 mid; have al := ad.trans (z.mono ad.size); have bb := hT.pure al; have bf : false = true → (VT.mk E U O (.slice N A.length J) (.slice M D.length I) A D).v.chk = 0 := fun e => jp e (by decide)
    go_upto_region 9 with (go_at_call 162; refine (ajh _ w.heap.size w2.heap.size _ _ l5 mid H Q8 O8 s8 bp.out ar.out (by have := bn.out; omega) key mid G red E U O N J M I A D _ false A8 R8 bb aw.out bf).mono ?_; rintro e w9 ⟨rfl, r9, Q9, O9, bk⟩; have bm := al.trans (bk.mono (Nat.le_of_lt av.out))); obtain ⟨l9, ac⟩ := qx (l5 ++ part ([4, 3, 0, UInt8.ofNat H] ++ stx mid ++ (if false = true then (VT.mk E U O (.slice N A.length J) (.slice M D.length I) A D).v.bytes else []))); have ba := qq ac; have O9 := O9.cast ac; obtain ⟨b7, b0, rfl⟩ := aap O9; have b4 := Q9.at 0 rfl; have cv := aif w9 _ l9 (O9.slc aaa); clear ac; have bd := qq (show Y.text = ⟨l9.toArray⟩ by rw [bg.out, ae.out, qk (by have := am; omega), br.out, ae.out, ← ba.out]; rw [qk b8.out, qk (by decide)]); go_wp2; go_ret2; exact ⟨by rw [bd.out]; rfl, bm⟩
def Pr.zero : Pr := ⟨⟨#[]⟩, false, false, ⟨#[]⟩, V.zero⟩
def pgO (b : List UInt8) : Option Pr := if (pgD b).chk = 0 ∧ (pgD b).bytes = b then some (pgD b) else none
theorem aoy (b : List UInt8) : aol b (pgO b) := ayy (ba0 b)
theorem bbj (b : List UInt8) : pgO b = if (pgP b).2.2 = false ∧ (pgP b).1.chk = 0 ∧ (pgP b).1.bytes = b then some (pgP b).1 else none := amy (aoy b) (ayz (ba7 b))
def prE (o : Option Pr) : Int := match o with | some _ => 0 | none => 90
def prV (o : Option Pr) : Pr := match o with | some p => p | none => Pr.zero
def bd2 (w : World) (o : Option Pr) (e : Ending) (w' : World) : Prop := ∃ t : PT, e = .returned (.tuple #[t.arg, .int .i64 (prE o)]) ∧ t.p = prV o ∧ Rd (fun i => w.heap.size ≤ i) w' t.app ∧ Below w.heap.size w w'
theorem ati {p : Pr} {s : ByteArray} : p.text = s ↔ p.bytes = s.data.toList := by
 unfold Pr.text
 constructor
 ·intro h; rw [← h]
 ·intro h; rw [h]
theorem ay8 (x y : Nat) (A : x < 2^64) (hy : y < 2^64) : bits .and .u64 (x : Int) (y : Int) = ((x &&& y : Nat) : Int) := by
 have h : x &&& y < 2^64 := Nat.and_lt_two_pow x hy
 unfold bits
 simp only [BitVec.toNat_and, al6 x A, al6 y hy]
 exact bau _ (by omega) (by omega)
theorem aoz (n i : Nat) (E : n < 65536) (hi : i < 3) (m : Int) (A : m = ((2 ^ i : Nat) : Int)) : (bits .and .u64 (n : Int) m != 0) = (n / 2 ^ i % 2 == 1) := by
 have D : 2 ^ i < 2 ^ 64 := Nat.pow_lt_pow_right (by omega) (by omega)
 subst A
 have key : n &&& 2 ^ i = if n.testBit i then 2 ^ i else 0 := by
  apply Nat.eq_of_testBit_eq; intro j; rw [Nat.testBit_and, Nat.testBit_two_pow]; by_cases e : i = j
  ·subst e; cases h : n.testBit i <;> simp [Nat.testBit_two_pow]
  ·simp only [e, decide_false, Bool.and_false]
   split
   ·rw [Nat.testBit_two_pow]; simp [e]
   ·simp
 rw [ay8 n (2 ^ i) (by omega) D, key, Nat.testBit_eq_decide_div_mod_eq]
 have F : 0 < 2 ^ i := Nat.pow_pos (by omega)
 by_cases h : n / 2 ^ i % 2 = 1
 ·simp only [h, decide_true, if_true, beq_self_eq_true, bne_iff_ne]; omega
 ·simp only [h, decide_false, ju.2 h]; rfl
theorem bbk {n : Nat} (A : n < 65536) : (bits .and .u64 (n : Int) 1 != 0) = (n % 2 == 1) := by
 have := aoz n 0 A (by omega) 1 rfl
 rwa [Nat.pow_zero, Nat.div_one] at this
theorem bbl {n : Nat} (A : n < 65536) : (bits .and .u64 (n : Int) 2 != 0) = (n / 2 % 2 == 1) := aoz n 1 A (by omega) 2 rfl
theorem bcz {n : Nat} (A : n < 65536) : (bits .and .u64 (n : Int) 4 != 0) = (n / 4 % 2 == 1) := aoz n 2 A (by omega) 4 rfl
theorem ajk (w : World) (E A : Nat) (r : RS) (D : Bool) (X : RdP w E A) (hs : RdS w A r.1 r.2) (W : Big r.1.length) :
 Calls prog 170 #[.agg #[.pointer (some ⟨E, 0, none⟩)], .bool D] w fun e J => e = .returned (.string (aoj D r).1) ∧ RdS J A (aoj D r).2.1 (aoj D r).2.2 ∧ Upd (acu A) w J := by
 have F := (qz w.heap.size w).alloc (qj _) (.cells #[.pointer (some ⟨E, 0, none⟩)] 199)
 have K := Upd.of_below (S := acu A) F
 have U := Blk.new w [.pointer (some ⟨E, 0, none⟩)] 199
 have Y := U.at 0 rfl
 have hp1 := X.pure F; have I := hs.pure F
 cases D
 ·go_enter func170, ntmps170
  go_wp2; go_ret; exact ⟨rfl, I, K⟩
 ·obtain ⟨x, H⟩ := qx (txR 1 255 r)
  have G := av1 _ E A r 1 255 hp1 I (by omega) W (by unfold Big; omega); rw [H] at G; have O := qq G; rw [show aoj true r = x from H]; clear G H; go_enter func170, ntmps170; go_wp2_with (go_at_call 197; refine (O.out).mono ?_; rintro e Z ⟨rfl, N, M⟩); go_ret; exact ⟨rfl, N, K.only2 M⟩
open Tryz
def qn (s : ByteArray) : Bool := decide (1 ≤ s.size) && decide (s.size ≤ 40) && s.data.toList.all (fun c => decide (33 ≤ c.toNat) && decide (c.toNat ≤ 126))
def ah2 (n : Int) : Bool := decide (1 ≤ n) && decide (n ≤ 1099511627776)
def us (k : Int) : Nat := if k = 1 then 3 else if k = 2 then 1 else if k = 3 then 8 else if k = 4 then 12 else if k = 5 ∨ k = 7 then 6 else if k = 6 ∨ k = 8 ∨ k = 9 then 4 else 0
def uN (k : Int) : Bool := us k % 2 == 1
def uM (k : Int) : Bool := us k / 2 % 2 == 1
def uX (k : Int) : Bool := us k / 4 % 2 == 1
def uW (k : Int) : Bool := us k / 8 % 2 == 1
theorem atj {p : Pr} (A : p.app.Wf) (h : p.chk = 0) : pgO p.bytes = some p := amz A h (aoy _)
abbrev Xn := Int × ByteArray × ByteArray
def Xn.zero : Xn := (0, ⟨#[]⟩, ⟨#[]⟩)
def Xn.okB (x : Xn) : Bool := decide (0 < x.2.1.size) && decide (x.2.1.size ≤ 64) && decide (x.2.2.size ≤ 64)
structure Pt where
 q : ByteArray
 id : Int
 pr : Pr
 body : ByteArray
structure Rf where
 q : ByteArray
 id : Int
structure En where
 kind : Int
 name : ByteArray
 n : Int
 x : Xn
 zu : List Pt
 zy : List Rf
def En.zero : En := ⟨0, ⟨#[]⟩, 0, Xn.zero, [], []⟩
def Pr.smallB (p : Pr) : Bool := decide (p.chk = 0) && decide (p.bytes.length ≤ 8192)
def Pt.okB (num : Bool) (p : Pt) : Bool := qn p.q && (ah2 p.id == num) && (num || decide (p.id = 0)) && decide (p.body.size ≤ 4096) && p.pr.smallB
def Rf.okB (r : Rf) : Bool := qn r.q && ah2 r.id
def En.okB (e : En) : Bool :=
 !(us e.kind == 0) && (if uN e.kind then qn e.name else e.name.size == 0) && (if uM e.kind then ah2 e.n else e.n == 0) && (if uX e.kind then Xn.okB e.x else (e.x.1 == 0 && e.x.2.1.size == 0 && e.x.2.2.size == 0)) &&
 (uW e.kind || (e.zu.isEmpty && e.zy.isEmpty)) && decide (e.zu.length ≤ 100) && decide (e.zy.length ≤ 100) && e.zu.all (Pt.okB (e.kind == 3)) && e.zy.all Rf.okB
def En.chk (e : En) : Int := if e.okB then 0 else 130
theorem bbm {e : En} : e.chk = 0 ↔ e.okB = true := by unfold En.chk; cases e.okB <;> simp
def sT (s : ByteArray) : List UInt8 := UInt8.ofNat s.size :: s.data.toList
def Xn.bytes (x : Xn) : List UInt8 := be 4 x.1.toNat ++ (sT x.2.1 ++ sT x.2.2)
def Pt.bytes (p : Pt) : List UInt8 := sT p.q ++ (be 8 p.id.toNat ++ (be 4 p.pr.bytes.length ++ (p.pr.bytes ++ (be 2 p.body.size ++ p.body.data.toList))))
def Rf.bytes (r : Rf) : List UInt8 := sT r.q ++ be 8 r.id.toNat
def En.bytes (e : En) : List UInt8 :=
 UInt8.ofNat e.kind.toNat :: ((if uN e.kind then sT e.name else []) ++ ((if uM e.kind then be 8 e.n.toNat else []) ++ ((if uX e.kind then Xn.bytes e.x else []) ++
  (if uW e.kind then UInt8.ofNat e.zu.length :: (e.zu.flatMap Pt.bytes ++ UInt8.ofNat e.zy.length :: e.zy.flatMap Rf.bytes) else []))))
def En.text (e : En) : ByteArray := ⟨e.bytes.toArray⟩
structure En.Wf (e : En) : Prop where
 k0 : 0 ≤ e.kind
 k1 : e.kind < 256
 n0 : 0 ≤ e.n
 n1 : e.n < 18446744073709551616
 x0 : 0 ≤ e.x.1
 x1 : e.x.1 < 4294967296
 p : ∀ p ∈ e.zu, 0 ≤ p.id ∧ p.id < 18446744073709551616 ∧ p.pr.app.Wf
 t : ∀ r ∈ e.zy, 0 ≤ r.id ∧ r.id < 18446744073709551616
theorem bbn {s : ByteArray} (h : qn s = true) : s.size ≤ 40 := by unfold qn at h; simp only [jj, qm] at h; exact h.1.2
theorem bbo (s : ByteArray) : (sT s).length = s.size + 1 := by unfold sT; rw [jn, acj]
structure Wk where
 zu : List Pt
 zy : List Rf
def Wk.zero : Wk := ⟨[], []⟩
def xW : Xn := (0, ⟨#[120]⟩, ⟨#[]⟩)
def Wk.whole (w : Wk) : En := ⟨4, ⟨#[]⟩, 0, xW, w.zu, w.zy⟩
def acz (a b : Rf) : Bool := (a.q.toList == b.q.toList) && decide (a.id = b.id)
theorem abt {a b : Rf} : acz a b = true ↔ a = b := by
 unfold acz
 rw [jj, qm, aid]
 obtain ⟨p, q⟩ := a
 obtain ⟨r, s⟩ := b
 simp
def aa8 (l : List Rf) (r : Rf) : Nat := l.countP (fun x => acz x r)
theorem adb (r : Rf) : aa8 [] r = 0 := rfl
theorem acw (x : Rf) (l : List Rf) (r : Rf) : aa8 (x :: l) r = aa8 l r + if acz x r = true then 1 else 0 := by unfold aa8; rw [List.countP_cons]
theorem aa6 (a b : List Rf) (r : Rf) : aa8 (a ++ b) r = aa8 a r + aa8 b r := by unfold aa8; rw [List.countP_append]
def aem (l : List Rf) : Bool := l.all (fun r => decide (aa8 l r ≤ 1))
def Wk.okB (w : Wk) : Bool := w.whole.okB && aem w.zy
def Wk.chk (w : Wk) : Int := if w.okB then 0 else 130
theorem abq {l : List Rf} {r : Rf} : 0 < aa8 l r ↔ r ∈ l := by
 unfold aa8
 rw [List.countP_pos_iff]
 exact ⟨fun ⟨a, h, e⟩ => by rw [← abt.1 e]; exact h, fun h => ⟨r, h, abt.2 rfl⟩⟩
theorem ajl {l : List Rf} : aem l = true ↔ ∀ i, ∀ h : i < l.length, aa8 (l.take i) l[i] = 0 := by
 unfold aem
 simp only [jt, qm]
 constructor
 ·intro h i hi
  have E := h l[i] (qy hi); have e : aa8 l l[i] = aa8 (l.take i) l[i] + aa8 (l.drop i) l[i] := by rw [← aa6, List.take_append_drop]
  have F : 0 < aa8 (l.drop i) l[i] := abq.2 (by rw [List.drop_eq_getElem_cons hi]; exact List.mem_cons_self ..); omega
 ·intro h r G
  have key : ∀ n, n ≤ l.length → aa8 (l.take n) r ≤ 1 := by
   intro n
   induction n with
   | zero => intro _; simp [adb]
   | succ n ih =>
    intro H; have A : n < l.length := by omega
    rw [jx A, aa6, acw, adb]; by_cases e : acz l[n] r = true
    ·have D := h n A
     rw [abt.1 e] at D; rw [qw e, D]; omega
    ·rw [qk e]; have := ih (by omega); omega
  have := key l.length (qj _); rwa [js] at this
def afg : List Pt → Int → List Pt
 | [], _ => []
 | p :: l, n => { p with id := n } :: afg l (n + 1)
def Wk.doE (w : Wk) (n : Int) : En × Int :=
 if w.okB = false then (En.zero, 130) else if w.zu ≠ [] ∧ (n = 0 ∨ 1099511627776 + 1 - (w.zu.length : Int) < n) then (En.zero, 6) else (⟨3, ⟨#[]⟩, 0, Xn.zero, afg w.zu n, w.zy⟩, 0)
def Wk.names (w : Wk) : List ByteArray := w.zu.map Pt.q ++ w.zy.map Rf.q
def Wk.into (w : Wk) (x : ByteArray) : Nat := if w.okB = false then 0 else w.zu.countP (fun p => p.q.toList == x.toList)
structure IsCmp {α : Type} (c : α → α → Int) : Prop where
 eq : ∀ a b, c a b = 0 ↔ a = b
 anti : ∀ a b, c b a = - c a b
 trans : ∀ a b d, c a b < 0 → c b d < 0 → c a d < 0
def ad8 (a b : Int) : Int := if a < b then -1 else if b < a then 1 else 0
theorem cmpI_ok : IsCmp ad8 where
 eq := fun a b => by unfold ad8; split <;> (try split) <;> omega
 anti := fun a b => by unfold ad8; split <;> split <;> (try split) <;> omega
 trans := fun a b d => by unfold ad8; split <;> split <;> split <;> (try split) <;> (try split) <;> omega
theorem cmpL_ok : IsCmp Lib.compareBytes where
 eq := by
  intro a
  induction a with
  | nil => intro b; cases b <;> simp [Lib.compareBytes]
  | cons x a ih =>
   intro b
   cases b with
   | nil => simp [Lib.compareBytes]
   | cons y b =>
    unfold Lib.compareBytes; by_cases A : x < y
    ·rw [qw A]; simp only [List.cons.injEq]; constructor
     ·intro h; omega
     ·rintro ⟨rfl, _⟩; exact jp A (UInt8.lt_irrefl x)
    ·rw [qk A]
     by_cases D : y < x
     ·rw [qw D]; simp only [List.cons.injEq]; constructor
      ·intro h; omega
      ·rintro ⟨rfl, _⟩; exact jp D (UInt8.lt_irrefl x)
     ·rw [qk D, ih]
      have : x = y := UInt8.le_antisymm (UInt8.not_lt.1 D) (UInt8.not_lt.1 A); simp [this]
 anti := by
  intro a
  induction a with
  | nil => intro b; cases b <;> simp [Lib.compareBytes]
  | cons x a ih =>
   intro b
   cases b with
   | nil => simp [Lib.compareBytes]
   | cons y b =>
    unfold Lib.compareBytes; by_cases A : x < y
    ·rw [qk (fun h => UInt8.lt_irrefl x (UInt8.lt_trans A h)), qw A, qw A]; rfl
    ·by_cases D : y < x
     ·rw [qw D, qk A, qw D]
     ·rw [qk D, qk A, qk A, qk D, ih]
 trans := by
  intro a
  induction a with
  | nil => intro b d; cases b <;> cases d <;> simp [Lib.compareBytes]
  | cons x a ih =>
   intro b d
   cases b with
   | nil => simp [Lib.compareBytes]
   | cons y b =>
    cases d with
    | nil =>
     simp only [Lib.compareBytes]; split
     ·intro _ h; omega
     ·split
      ·intro h; omega
      ·intro _ h; omega
    | cons z d =>
     unfold Lib.compareBytes; by_cases A : x < y
     ·rw [qw A]
      by_cases E : y < z
      ·rw [qw E, qw (UInt8.lt_trans A E)]; intro _ _; omega
      ·rw [qk E]
       by_cases F : z < y
       ·rw [qw F]; intro _ h; omega
       ·have : y = z := UInt8.le_antisymm (UInt8.not_lt.1 F) (UInt8.not_lt.1 E)
        subst this; rw [qw A]; intro _ _; omega
     ·rw [qk A]
      by_cases D : y < x
      ·rw [qw D]; intro h; omega
      ·have : x = y := UInt8.le_antisymm (UInt8.not_lt.1 D) (UInt8.not_lt.1 A)
       subst this; rw [qk D]; by_cases E : x < z
       ·rw [qw E, qw E]; intro _ _; omega
       ·rw [qk E, qk E]
        by_cases F : z < x
        ·rw [qw F]; intro _ h; omega
        ·rw [qk F, qk F]; exact ih b d
def abf (s t : ByteArray) : Int := Lib.compareBytes s.data.toList t.data.toList
theorem cmpB_ok : IsCmp abf where
 eq := fun a b => by
  unfold abf; rw [cmpL_ok.eq]; constructor
  ·intro h; cases a; cases b; congr 1; exact Array.toList_inj.1 h
  ·rintro rfl; rfl
 anti := fun a b => cmpL_ok.anti _ _
 trans := fun a b d => cmpL_ok.trans _ _ _
def atk (c d : Int) : Int := if c ≠ 0 then c else d
def ay9 {α β : Type} (c : α → α → Int) (d : β → β → Int) (x y : α × β) : Int := atk (c x.1 y.1) (d x.2 y.2)
theorem atl {H G : Type} {c : H → H → Int} {d : G → G → Int} (D : IsCmp c) (F : IsCmp d) : IsCmp (ay9 c d) where
 eq := fun a b => by
  unfold ay9 atk; split
  ·rename_i h
   constructor
   ·intro J; exact jp J h
   ·rintro rfl; exact jp ((D.eq _ _).2 rfl) h
  ·rename_i h
   have E := (D.eq _ _).1 (Decidable.of_not_not h); rw [F.eq]; constructor
   ·intro A; exact Prod.ext E A
   ·rintro rfl; rfl
 anti := fun a b => by
  unfold ay9 atk; rw [D.anti a.1 b.1, F.anti a.2 b.2]; split <;> split <;> omega
 trans := fun a b e => by
  unfold ay9 atk; by_cases E : c a.1 b.1 = 0
  ·have N := (D.eq _ _).1 E
   rw [qk (by omega), N]; by_cases A : c b.1 e.1 = 0
   ·rw [qk (by omega), qk (by omega)]; exact F.trans _ _ _
   ·rw [qw A, qw A]; intro _ h; exact h
  ·rw [qw E]
   by_cases A : c b.1 e.1 = 0
   ·have I := (D.eq _ _).1 A
    rw [qk (by omega), ← I, qw E]; intro h _; exact h
   ·rw [qw A]
    intro K M; have := D.trans _ _ _ K M; rw [qw (by omega)]; exact this
theorem IsCmp.refl {A : Type} {c : A → A → Int} (h : IsCmp c) (a : A) : c a a = 0 := (h.eq a a).2 rfl
theorem IsCmp.le_lt {D : Type} {c : D → D → Int} (h : IsCmp c) {a b d : D} (A : c a b ≤ 0) (E : c b d < 0) : c a d < 0 := by
 rcases Int.lt_or_eq_of_le A with A | A
 ·exact h.trans _ _ _ A E
 ·rw [(h.eq _ _).1 A]; exact E
theorem IsCmp.lt_le {D : Type} {c : D → D → Int} (h : IsCmp c) {a b d : D} (E : c a b < 0) (A : c b d ≤ 0) : c a d < 0 := by
 rcases Int.lt_or_eq_of_le A with A | A
 ·exact h.trans _ _ _ E A
 ·rw [← (h.eq _ _).1 A]; exact E
theorem IsCmp.map {A E : Type} {c : A → A → Int} (h : IsCmp c) (f : E → A) (D : ∀ a b, f a = f b → a = b) : IsCmp (fun a b => c (f a) (f b)) where
 eq := fun a b => by rw [h.eq]; exact ⟨D a b, fun e => by rw [e]⟩
 anti := fun a b => h.anti _ _
 trans := fun a b d => h.trans _ _ _
def orI : List Int → Int
 | [] => 0
 | x :: l => if x ≠ 0 then x else orI l
theorem awe {L : List Int} {k : Nat} (A : k < L.length) (h : ∀ j, (E : j < k) → L[j]'(by omega) = 0) : orI L = if L[k] ≠ 0 then L[k] else orI (L.drop (k + 1)) := by
 induction k generalizing L with
 | zero => cases L with
  | nil => simp at A
  | cons x L => rfl
 | succ k ih =>
  cases L with
  | nil => simp at A
  | cons x L =>
   have D := h 0 (by omega); simp only [List.getElem_cons_zero] at D; simp only [orI, D, ne_eq, not_true, if_false, List.getElem_cons_succ, List.drop_succ_cons]; exact ih (by simpa using A) (fun j E => by have := h (j + 1) (by omega); simpa using this)
theorem awf {L : List Int} (h : ∀ j, (D : j < L.length) → L[j] = 0) : orI L = 0 := by
 induction L with
 | nil => rfl
 | cons x L ih =>
  have A := h 0 (by simp); simp only [List.getElem_cons_zero] at A; simp only [orI, A, ne_eq, not_true, if_false]; exact ih (fun j D => by have := h (j + 1) (by simpa using D); simpa using this)
abbrev Xid := Int × ByteArray × ByteArray
def aav : Xid → Xid → Int := ay9 ad8 (ay9 abf abf)
theorem cmpX_ok : IsCmp aav := atl cmpI_ok (atl cmpB_ok cmpB_ok)
structure Ms where
 id : Int
 pr : Pr
 body : ByteArray
structure Qu where
 name : ByteArray
 limit : Int
 zw : List Ms
structure Br where
 x : Xn
 zu : List Pt
 zy : List Rf
structure He where
 x : Xn
 c : Bool
structure St where
 next : Int
 qs : List Qu
 zk : List Br
 hs : List He
def St.zero : St := ⟨0, [], [], []⟩
def adj {α : Type} (r : α → α → Bool) : List α → Bool
 | a :: b :: l => r a b && adj r (b :: l)
 | _ => true
theorem ahi {A : Type} {r : A → A → Bool} : ∀ {L : List A}, adj r L = true ↔ ∀ i, (h : i + 1 < L.length) → r (L[i]'(by omega)) L[i + 1] = true
 | [] => by simp [adj]
 | [a] => by simp [adj]
 | a :: b :: l => by
  rw [adj, jj, ahi]; constructor
  ·rintro ⟨E, D⟩ i h
   match i with
   | 0 => exact E
   | i + 1 => exact D i (by simpa using h)
  ·intro h
   exact ⟨h 0 (by simp), fun i hi => h (i + 1) (by simpa using hi)⟩
theorem atm {F : Type} {r : F → F → Bool} (G : ∀ a b c, r a b = true → r b c = true → r a c = true) : ∀ {L : List F}, adj r L = true ↔ L.Pairwise (fun a b => r a b = true)
 | [] => by simp [adj]
 | [a] => by simp [adj]
 | a :: b :: l => by
  rw [adj, jj, atm G, List.pairwise_cons (a := a)]; constructor
  ·rintro ⟨A, D⟩
   refine ⟨fun c E => ?_, D⟩; rcases List.mem_cons.1 E with rfl | E
   ·exact A
   ·exact G _ _ _ A ((List.pairwise_cons.1 D).1 c E)
  ·rintro ⟨A, D⟩
   exact ⟨A b (List.mem_cons_self ..), D⟩
def aia {α κ : Type} (c : κ → κ → Int) (k : α → κ) (L : List α) : Bool := adj (fun a b => decide (c (k a) (k b) < 0)) L
theorem ad4 {D A : Type} {c : A → A → Int} (E : IsCmp c) {k : D → A} {L : List D} : aia c k L = true ↔ L.Pairwise (fun a b => c (k a) (k b) < 0) := by
 unfold aia
 rw [atm (fun a b d F G => by rw [qm] at *; exact E.trans _ _ _ F G)]
 simp only [qm]
def lbK {α κ : Type} (c : κ → κ → Int) (k : α → κ) (L : List α) (x : κ) : Nat := (L.takeWhile (fun a => decide (c (k a) x < 0))).length
def abj {α : Type} (L : List α) (i : Nat) (x : α) : List α := L.take i ++ x :: L.drop i
theorem aza {D A : Type} (c : A → A → Int) (k : D → A) (L : List D) (x : A) : lbK c k L x ≤ L.length := (List.takeWhile_prefix _).length_le
theorem azb {E A : Type} {c : A → A → Int} {k : E → A} : ∀ {L : List E} {x : A} {i : Nat}, i ≤ L.length → (∀ j, (h : j < L.length) → j < i → c (k L[j]) x < 0) → (∀ h : i < L.length, ¬ c (k L[i]) x < 0) → lbK c k L x = i
 | [], x, i, h, _, _ => by
  have : i = 0 := by simpa using h
  subst this; rfl
 | a :: L, x, 0, _, _, h2 => by
  have h := h2 (by simp); unfold lbK; rw [List.takeWhile_cons_of_neg (by simpa using h)]; rfl
 | a :: L, x, i + 1, h, h1, h2 => by
  have F := h1 0 (by simp) (by omega); have D := azb (c := c) (k := k) (L := L) (x := x) (i := i) (by simpa using h) (fun j G hi => h1 (j + 1) (by simpa using G) (by omega)) (fun hi => h2 (by simpa using hi)); unfold lbK at D ⊢; rw [List.takeWhile_cons_of_pos (by simpa using F), jn, D]
theorem ack {A : Type} {L : List A} {i : Nat} {x y : A} : y ∈ abj L i x ↔ y = x ∨ y ∈ L := by
 unfold abj
 rw [List.mem_append, List.mem_cons]
 have h : y ∈ L ↔ y ∈ L.take i ∨ y ∈ L.drop i := by
  conv => lhs; rw [← List.take_append_drop i L]
  exact List.mem_append
 rw [h]
 constructor
 ·rintro (h | h | h)
  ·exact .inr (.inl h)
  ·exact .inl h
  ·exact .inr (.inr h)
 ·rintro (h | h | h)
  ·exact .inr (.inl h)
  ·exact .inl h
  ·exact .inr (.inr h)
def Ms.okB (m : Ms) : Bool := decide (m.body.size ≤ 4096) && m.pr.smallB
def Qu.okB (n : Int) (q : Qu) : Bool := qn q.name && ah2 q.limit && q.zw.all (fun m => decide (1 ≤ m.id) && decide (m.id < n) && m.okB) && aia ad8 Ms.id q.zw
def Br.en (b : Br) : En := ⟨4, ⟨#[]⟩, 0, b.x, b.zu, b.zy⟩
def ad0 (qs : List Qu) (n : ByteArray) : Bool := qs.any (fun q => decide (q.name = n))
def Qu.hasM (q : Qu) (i : Int) : Bool := q.zw.any (fun m => decide (m.id = i))
def hasM (qs : List Qu) (r : Rf) : Bool := qs.any (fun q => decide (q.name = r.q) && q.hasM r.id)
def ace (zk : List Br) : List Rf := zk.flatMap Br.zy
def amu (zk : List Br) (x : Xn) : Bool := zk.any (fun b => decide (b.x = x))
def ard (hs : List He) (x : Xn) : Bool := hs.any (fun h => decide (h.x = x))
def ane (qs : List Qu) (zk : List Br) : Bool := zk.all (fun b => b.en.okB && b.zu.all (fun p => ad0 qs p.q) && b.zy.all (hasM qs)) && aem (ace zk) && aia aav Br.x zk
def hsB (zk : List Br) (hs : List He) : Bool := hs.all (fun h => Xn.okB h.x && !amu zk h.x) && aia aav He.x hs
def qsB (n : Int) (qs : List Qu) : Bool := qs.all (Qu.okB n) && aia abf Qu.name qs
def St.okB (s : St) : Bool := decide (1 ≤ s.next) && decide (s.next ≤ 1099511627777) && qsB s.next s.qs && ane s.qs s.zk && hsB s.zk s.hs
def St.chk (s : St) : Int := if s.okB then 0 else 140
theorem bbp (s : St) : s.chk = 0 ∨ s.chk = 140 := by unfold St.chk; split; exact .inl rfl; exact .inr rfl
theorem awg {s : St} : s.chk = 0 ↔ s.okB = true := by unfold St.chk; cases s.okB <;> simp
def amb (qs : List Qu) (n : ByteArray) (f : List Ms → List Ms) : List Qu := qs.map (fun q => if q.name = n then { q with zw := f q.zw } else q)
def ad9 (qs : List Qu) (r : Rf) : List Qu := amb qs r.q (fun l => l.filter (fun m => decide (m.id ≠ r.id)))
def aod (s : St) (p : Pt) : St := { s with qs := amb s.qs p.q (fun l => l ++ [⟨p.id, p.pr, p.body⟩]), next := p.id + 1 }
def Ms.mark (m : Ms) : Ms := { m with pr := { m.pr with red := true } }
def ao1 (qs : List Qu) (r : Rf) : List Qu := amb qs r.q (fun l => l.map (fun m => if m.id = r.id then m.mark else m))
def St.work (s : St) (zu : List Pt) (zy : List Rf) : St := zu.foldl aod { s with qs := zy.foldl ad9 s.qs }
def aen (qs : List Qu) : Int → List Pt → Int
 | _, [] => 0
 | n, p :: l => if ad0 qs p.q = false then 7 else if p.id < n then 9 else aen qs (p.id + 1) l
def abw (s : St) : List Rf → List Rf → Int
 | _, [] => 0
 | pre, r :: l => if hasM s.qs r = false ∨ 0 < aa8 pre r then 7 else if 0 < aa8 (ace s.zk) r then 9 else abw s (pre ++ [r]) l
def no (f : Int) : St × Int := (St.zero, f)
def St.queue (s : St) (e : En) : St × Int := if ad0 s.qs e.name = true then no 8 else ({ s with qs := abj s.qs (lbK abf Qu.name s.qs e.name) ⟨e.name, e.n, []⟩ }, 0)
def St.uses (s : St) (n : ByteArray) : Bool := s.zk.any (fun b => b.zu.any (fun p => decide (p.q = n)) || b.zy.any (fun r => decide (r.q = n)))
def St.drop (s : St) (e : En) : St × Int := if ad0 s.qs e.name = false then no 7 else if s.uses e.name = true then no 9 else ({ s with qs := s.qs.filter (fun q => decide (q.name ≠ e.name)) }, 0)
def St.doE (s : St) (e : En) : St × Int := if aen s.qs s.next e.zu ≠ 0 then no (aen s.qs s.next e.zu) else if abw s [] e.zy ≠ 0 then no (abw s [] e.zy) else (s.work e.zu e.zy, 0)
def St.prep (s : St) (e : En) : St × Int :=
 if amu s.zk e.x = true ∨ ard s.hs e.x = true then no 8 else if e.zu.all (fun p => ad0 s.qs p.q) = false then no 7 else if abw s [] e.zy ≠ 0 then no (abw s [] e.zy)
 else ({ s with zk := abj s.zk (lbK aav Br.x s.zk e.x) ⟨e.x, e.zu, e.zy⟩ }, 0)
def St.without (s : St) (x : Xn) : St := { s with zk := s.zk.filter (fun b => decide (b.x ≠ x)) }
def St.commit (s : St) (e : En) : St × Int :=
 match s.zk.find? (fun b => decide (b.x = e.x)) with
 | none => no 7
 | some b => if b.zu ≠ [] ∧ e.n ≠ s.next then no 9 else if 1099511627777 < s.next + b.zu.length then no 6 else ((s.without e.x).work (afg b.zu s.next) b.zy, 0)
def St.back (s : St) (e : En) : St × Int :=
 match s.zk.find? (fun b => decide (b.x = e.x)) with
 | none => no 7
 | some b => ({ s.without e.x with qs := b.zy.foldl ao1 s.qs }, 0)
def St.keep (s : St) (x : Xn) (c : Bool) : St := { s with hs := abj s.hs (lbK aav He.x s.hs x) ⟨x, c⟩ }
def ao2 (r : St × Int) (x : Xn) (c : Bool) : St × Int := if r.2 = 0 then (r.1.keep x c, 0) else r
def St.forget (s : St) (e : En) : St × Int := if ard s.hs e.x = false then no 7 else ({ s with hs := s.hs.filter (fun h => decide (h.x ≠ e.x)) }, 0)
def St.kind (s : St) (e : En) : St × Int :=
 if e.kind = 1 then s.queue e else if e.kind = 2 then s.drop e else if e.kind = 3 then s.doE e else if e.kind = 4 then s.prep e else if e.kind = 5 then s.commit e else if e.kind = 6 then s.back e
 else if e.kind = 7 then ao2 (s.commit e) e.x true else if e.kind = 8 then ao2 (s.back e) e.x false else s.forget e
def St.ap (s : St) (e : En) : St × Int := if s.okB = false then no 140 else if e.okB = false then no 130 else s.kind e
structure Qu.Rt (n : Int) (q : Qu) : Prop where
 nm : qn q.name = true
 lm : ah2 q.limit = true
 ms : ∀ m ∈ q.zw, 1 ≤ m.id ∧ m.id < n ∧ m.okB = true
 rs : q.zw.Pairwise (fun a b => a.id < b.id)
theorem azc {a b : Int} : ad8 a b < 0 ↔ a < b := by unfold ad8; split <;> (try split) <;> omega
theorem awh {n : Int} {q : Qu} : q.okB n = true ↔ q.Rt n := by
 unfold Qu.okB
 simp only [jj, jt, qm, ad4 cmpI_ok, azc]
 exact ⟨fun ⟨⟨⟨a, b⟩, c⟩, d⟩ => ⟨a, b, fun m A => ⟨(c m A).1.1, (c m A).1.2, (c m A).2⟩, d⟩, fun h => ⟨⟨⟨h.nm, h.lm⟩, fun m A => ⟨⟨(h.ms m A).1, (h.ms m A).2.1⟩, (h.ms m A).2.2⟩⟩, h.rs⟩⟩
structure St.Rt (s : St) : Prop where
 n0 : 1 ≤ s.next
 n1 : s.next ≤ 1099511627777
 q : ∀ q ∈ s.qs, q.Rt s.next
 qa : s.qs.Pairwise (fun a b => abf a.name b.name < 0)
 b : ∀ b ∈ s.zk, b.en.okB = true ∧ (∀ p ∈ b.zu, ad0 s.qs p.q = true) ∧ ∀ r ∈ b.zy, hasM s.qs r = true
 bt : aem (ace s.zk) = true
 ba : s.zk.Pairwise (fun a b => aav a.x b.x < 0)
 h : ∀ h ∈ s.hs, Xn.okB h.x = true ∧ amu s.zk h.x = false
 ha : s.hs.Pairwise (fun a b => aav a.x b.x < 0)
theorem ao3 {s : St} : s.okB = true ↔ s.Rt := by
 unfold St.okB qsB ane hsB
 simp only [jj, jt, qm, ad4 cmpB_ok, ad4 cmpX_ok, awh, Bool.not_eq_true']
 exact ⟨fun ⟨⟨⟨⟨a, b⟩, c, d⟩, ⟨e, f⟩, g⟩, h, i⟩ => ⟨a, b, c, d, fun x A => ⟨(e x A).1.1, (e x A).1.2, (e x A).2⟩, f, g, h, i⟩, fun r => ⟨⟨⟨⟨r.n0, r.n1⟩, r.q, r.qa⟩, ⟨fun x A => ⟨⟨(r.b x A).1, (r.b x A).2.1⟩, (r.b x A).2.2⟩, r.bt⟩, r.ba⟩, r.h, r.ha⟩⟩
theorem ag4 {qs : List Qu} {n : ByteArray} : ad0 qs n = true ↔ ∃ q ∈ qs, q.name = n := by simp [ad0]
theorem awi {l : List Br} {x : Xn} : amu l x = true ↔ ∃ b ∈ l, b.x = x := by simp [amu]
theorem awj {l : List He} {x : Xn} : ard l x = true ↔ ∃ b ∈ l, b.x = x := by simp [ard]
theorem ad1 {qs : List Qu} {r : Rf} : hasM qs r = true ↔ ∃ q ∈ qs, q.name = r.q ∧ ∃ m ∈ q.zw, m.id = r.id := by simp [hasM, Qu.hasM]
theorem aqa {qs : List Qu} {n : ByteArray} {f : List Ms → List Ms} {q : Qu} : q ∈ amb qs n f ↔ ∃ p ∈ qs, q = if p.name = n then { p with zw := f p.zw } else p := by
 unfold amb; rw [jv]; exact ⟨fun ⟨p, h, e⟩ => ⟨p, h, e.symm⟩, fun ⟨p, h, e⟩ => ⟨p, h, e.symm⟩⟩
theorem ae6 (p : Qu) (n : ByteArray) (f : List Ms → List Ms) : (if p.name = n then { p with zw := f p.zw } else p : Qu).name = p.name := by split <;> rfl
theorem ajm {qs : List Qu} {n : ByteArray} {f : List Ms → List Ms} {r : Rf} (h : hasM qs r = true) (E : r.q = n → ∀ l : List Ms, (∃ m ∈ l, m.id = r.id) → ∃ m ∈ f l, m.id = r.id) : hasM (amb qs n f) r = true := by
 obtain ⟨q, F, D, A⟩ := ad1.1 h
 refine ad1.2 ⟨_, aqa.2 ⟨q, F, rfl⟩, (ae6 ..).trans D, ?_⟩
 by_cases e : q.name = n
 ·rw [qw e]; exact E (D.symm.trans e) _ A
 ·rw [qk e]; exact A
theorem ae7 {s : St} : ∀ {l A : List Rf}, abw s A l = 0 → (∀ r ∈ l, hasM s.qs r = true ∧ aa8 (ace s.zk) r = 0 ∧ aa8 A r = 0 ∧ aa8 l r = 1)
 | [], A, _, r, D => by cases D
 | t :: l, A, h, r, D => by
  unfold abw at h; by_cases E : hasM s.qs t = false ∨ 0 < aa8 A t
  ·rw [qw E] at h; omega
  ·rw [qk E] at h
   by_cases J : 0 < aa8 (ace s.zk) t
   ·rw [qw J] at h; omega
   ·rw [qk J] at h
    have N : hasM s.qs t = true := by cases G : hasM s.qs t; exact jp (.inl G) E; rfl
    have U : aa8 A t = 0 := by have := mt Or.inr E; omega
    have I := ae7 (l := l) h; have e : ∀ y, aa8 (A ++ [t]) y = aa8 A y + if acz t y = true then 1 else 0 := fun y => by rw [aa6, acw, adb]; omega
    have O : t ∉ l := fun M => by have := (I t M).2.2.1; rw [e t, qw (abt.2 rfl)] at this; omega
    have K : aa8 l t = 0 := by have := mt abq.1 O; omega
    rcases List.mem_cons.1 D with rfl | D
    ·exact ⟨N, by omega, U, by rw [acw, qw (abt.2 rfl), K]⟩
    ·have q := I r D
     have F := q.2.2.1; rw [e r] at F; have H : ¬ acz t r = true := fun G => by rw [qw G] at F; omega
     rw [qk H] at F; exact ⟨q.1, q.2.1, by omega, by rw [acw, qk H]; exact q.2.2.2⟩
theorem amd {l : List Rf} (h : aem l = true) (r : Rf) : aa8 l r ≤ 1 := by
 rcases Nat.eq_zero_or_pos (aa8 l r) with e | e
 ·omega
 ·unfold aem at h; rw [jt] at h; exact qt (h r (abq.1 e))
theorem ame {b : Br} (h : b.en.okB = true) : (∀ p ∈ b.zu, Pt.okB false p = true) ∧ b.zu.length ≤ 100 ∧ b.zy.length ≤ 100 ∧ Xn.okB b.x = true ∧ ∀ r ∈ b.zy, Rf.okB r = true := by
 unfold En.okB Br.en at h
 simp only [jj, jt, qm] at h
 obtain ⟨⟨⟨⟨⟨⟨⟨⟨-, -⟩, -⟩, G⟩, -⟩, E⟩, D⟩, A⟩, F⟩ := h
 exact ⟨A, E, D, G, F⟩
def ao7 (zk : List Br) (r : Rf) : Option Xn := (zk.find? (fun b => decide (0 < aa8 b.zy r))).map Br.x
def St.lock (s : St) (r : Rf) : Option Xn := if s.okB = false then none else ao7 s.zk r
def ab8 (qs : List Qu) (l : List Rf) : List Qu := qs.map (fun q => { q with zw := q.zw.map (fun m => if 0 < aa8 l ⟨q.name, m.id⟩ then m.mark else m) })
abbrev hdQ : ByteArray := ⟨#[113]⟩
abbrev hdX : Xn := (0, ⟨#[120]⟩, ⟨#[]⟩)
abbrev hdP (r : Bool) : Pr := ⟨⟨#[]⟩, false, r, ⟨#[]⟩, V.zero⟩
abbrev hdS0 : St := ⟨1, [], [], []⟩
abbrev hdE0 : En := ⟨1, hdQ, 9, Xn.zero, [], []⟩
abbrev hdS1 : St := ⟨1, [⟨hdQ, 9, []⟩], [], []⟩
abbrev hdE1 : En := ⟨3, ⟨#[]⟩, 0, Xn.zero, [⟨hdQ, 1, hdP false, ⟨#[97]⟩⟩], []⟩
abbrev hdS2 (r : Bool) : St := ⟨2, [⟨hdQ, 9, [⟨1, hdP r, ⟨#[97]⟩⟩]⟩], [], []⟩
abbrev hdE2 : En := ⟨4, ⟨#[]⟩, 0, hdX, [], [⟨hdQ, 1⟩]⟩
abbrev hdS3 : St := ⟨2, [⟨hdQ, 9, [⟨1, hdP false, ⟨#[97]⟩⟩]⟩], [⟨hdX, [], [⟨hdQ, 1⟩]⟩], []⟩
abbrev hdE3 : En := ⟨2, hdQ, 0, Xn.zero, [], []⟩
abbrev hdE4 : En := ⟨6, ⟨#[]⟩, 0, hdX, [], []⟩
theorem hd0 : hdS0.ap hdE0 = (hdS1, 0) := by kernel_rfl
theorem hd3 : (hdS3.ap hdE3).2 = 9 := by kernel_rfl
theorem hd1 : hdS1.ap hdE1 = (hdS2 false, 0) := by kernel_rfl
theorem hd2 : (hdS2 false).ap hdE2 = (hdS3, 0) := by kernel_rfl
theorem hd4 : hdS3.ap hdE4 = (hdS2 true, 0) := by kernel_rfl
structure PtT where
 q : ByteArray
 id : Int
 pr : PT
 body : ByteArray
def PtT.p (t : PtT) : Pt := ⟨t.q, t.id, t.pr.p, t.body⟩
def aat (t : PtT) : List Value := [.string t.q, .int .u64 t.id, .string t.pr.key, .bool t.pr.dur, .bool t.pr.red, .string t.pr.mid, .int .u8 t.pr.app.k, .int .u64 t.pr.app.n, .string t.pr.app.s, t.pr.app.kv, t.pr.app.lv, .string t.body]
def PtT.arg (t : PtT) : Value := .agg #[.string t.q, .int .u64 t.id, .string t.pr.key, .bool t.pr.dur, .bool t.pr.red, .string t.pr.mid, .int .u8 t.pr.app.k, .int .u64 t.pr.app.n, .string t.pr.app.s, t.pr.app.kv, t.pr.app.lv, .string t.body]
theorem PtT.arg_mk (q key mid A : ByteArray) (id : Int) (D red : Bool) (k n : Int) (s : ByteArray) (kv lv : Value) (ks : List ByteArray) (l : List VT) : (PtT.mk q id (PT.mk key D red mid (VT.mk k n s kv lv ks l)) A).arg = .agg #[.string q, .int .u64 id, .string key, .bool D, .bool red, .string mid, .int .u8 k, .int .u64 n, .string s, kv, lv, .string A] := rfl
def abc (r : Rf) : List Value := [.string r.q, .int .u64 r.id]
theorem aae (t : PtT) : (aat t).length = 12 := rfl
theorem aa9 (t : Rf) : (abc t).length = 2 := rfl
theorem ae8 (t : Rf) : ∀ u ∈ abc t, u.oneCell' = true := by simp [abc, Value.oneCell']
structure EnT where
 kind : Int
 name : ByteArray
 n : Int
 x : Xn
 pv : Value
 tv : Value
 zu : List PtT
 zy : List Rf
def EnT.e (t : EnT) : En := ⟨t.kind, t.name, t.n, t.x, t.zu.map PtT.p, t.zy⟩
def EnT.arg (t : EnT) : Value := .agg #[.int .u8 t.kind, .string t.name, .int .u64 t.n, .int .u32 t.x.1, .string t.x.2.1, .string t.x.2.2, t.pv, t.tv]
theorem EnT.arg_mk (kind n : Int) (A : ByteArray) (F : Int) (E H : ByteArray) (D G : Value) (J : List PtT) (I : List Rf) : (EnT.mk kind A n (F, E, H) D G J I).arg = .agg #[.int .u8 kind, .string A, .int .u64 n, .int .u32 F, .string E, .string H, D, G] := rfl
structure EnRd (P : Nat → Prop) (w : World) (x : EnT) : Prop where
 p : Slc aat 12 w x.pv x.zu
 pP : ∀ k, x.pv.ownBlock = some k → x.zu ≠ [] → P k
 r : ∀ y ∈ x.zu, Rd P w y.pr.app
 s : Slc abc 2 w x.tv x.zy
 sP : ∀ k, x.tv.ownBlock = some k → x.zy ≠ [] → P k
 wf : x.e.Wf
theorem EnRd.pure {P : Nat → Prop} {w D : World} {t : EnT} (h : EnRd P w t) (A : Below w.heap.size w D) : EnRd P D t := ⟨h.p.pure A, h.pP, fun x E => (h.r x E).pure A, h.s.pure A, h.sP, h.wf⟩
theorem EnRd.weaken {P Q : Nat → Prop} {w : World} {t : EnT} (h : EnRd P w t) (A : ∀ k, P k → Q k) : EnRd Q w t := ⟨h.p, fun k e n => A k (h.pP k e n), fun x E => (h.r x E).weaken (fun k _ D => A k D), h.s, fun k e n => A k (h.sP k e n), h.wf⟩
theorem EnRd.open {P : Nat → Prop} {w : World} {t : EnT} (h : EnRd P w t) : ∃ (kind : Int) (E : ByteArray) (n G : Int) (F J : ByteArray) (K : Option Addr) (I : Nat) (H : Option Addr) (M : Nat) (D : List PtT) (A : List Rf),
 t = (EnT.mk kind E n (G, F, J) (.slice K D.length I) (.slice H A.length M) D A) ∧ D.length ≤ maxLen ∧ A.length ≤ maxLen := by
 obtain ⟨kind, E, n, ⟨G, F, J⟩, N, W, D, A⟩ := t
 obtain ⟨K, I, rfl, U⟩ : ∃ a c, N = .slice a D.length c ∧ D.length ≤ maxLen := h.p.len
 obtain ⟨H, M, rfl, O⟩ : ∃ a c, W = .slice a A.length c ∧ A.length ≤ maxLen := h.s.len
 exact ⟨kind, E, n, G, F, J, K, I, H, M, D, A, rfl, U, O⟩
theorem ad5 {P : Nat → Prop} {w : World} {g off n U : Nat} {L : List PtT} (h : Slc aat 12 w (.slice (some ⟨g, off, none⟩) n U) L) {i : Nat} (hi : i < L.length) (M : Rd P w L[i].pr.app) :
 ∃ (q : ByteArray) (id : Int) (key : ByteArray) (I red : Bool) (mid : ByteArray) (O N : Int) (us : ByteArray) (H : Option Addr) (K : Nat) (G : Option Addr) (J : Nat) (D : List ByteArray) (E : List VT) (F : ByteArray),
 L[i] = (PtT.mk q id (PT.mk key I red mid (VT.mk O N us (.slice H D.length K) (.slice G E.length J) D E)) F) ∧ w.cell? ⟨g, off + i * 12, none⟩ = some (.string q) ∧ w.cell? ⟨g, off + i * 12 + 1, none⟩ = some (.int .u64 id) ∧ w.cell? ⟨g, off + i * 12 + 2, none⟩ = some (.string key) ∧ w.cell? ⟨g, off + i * 12 + 3, none⟩ = some (.bool I) ∧ w.cell? ⟨g, off + i * 12 + 4, none⟩ = some (.bool red) ∧ w.cell? ⟨g, off + i * 12 + 5, none⟩ = some (.string mid) ∧ w.cell? ⟨g, off + i * 12 + 6, none⟩ = some (.int .u8 O) ∧ w.cell? ⟨g, off + i * 12 + 7, none⟩ = some (.int .u64 N) ∧ w.cell? ⟨g, off + i * 12 + 8, none⟩ = some (.string us) ∧ w.cell? ⟨g, off + i * 12 + 9, none⟩ = some (.slice H D.length K) ∧ w.cell? ⟨g, off + i * 12 + 10, none⟩ = some (.slice G E.length J) ∧ w.cell? ⟨g, off + i * 12 + 11, none⟩ = some (.string F) := by
 have A := fun j u (W : (aat L[i])[j]? = some u) => h.get i hi j u W
 rcases hx : L[i] with ⟨q, id, ⟨key, I, red, mid, app⟩, F⟩
 rw [hx] at A M
 have M : Rd P w app := M
 obtain ⟨O, N, us, H, K, G, J, D, E, rfl, -⟩ := M.open
 exact ⟨q, id, key, I, red, mid, O, N, us, H, K, G, J, D, E, F, rfl, A 0 _ rfl, A 1 _ rfl, A 2 _ rfl, A 3 _ rfl, A 4 _ rfl, A 5 _ rfl, A 6 _ rfl, A 7 _ rfl, A 8 _ rfl, A 9 _ rfl, A 10 _ rfl, A 11 _ rfl⟩
theorem ado {w : World} {g off n D : Nat} {L : List Rf} (h : Slc abc 2 w (.slice (some ⟨g, off, none⟩) n D) L) {i : Nat} (hi : i < L.length) :
 ∃ (q : ByteArray) (id : Int), L[i] = ⟨q, id⟩ ∧ w.cell? ⟨g, off + i * 2, none⟩ = some (.string q) ∧ w.cell? ⟨g, off + i * 2 + 1, none⟩ = some (.int .u64 id) := by
 have A := fun j u (E : (abc L[i])[j]? = some u) => h.get i hi j u E
 rcases hx : L[i] with ⟨q, id⟩
 rw [hx] at A
 exact ⟨q, id, rfl, A 0 _ rfl, A 1 _ rfl⟩
theorem bc8 (k : Int) : us k < 16 := by
 unfold us
 split; omega
 split; omega
 split; omega
 split; omega
 split; omega
 split; omega
 omega
theorem bbs (u : Nat) (A : u < 16) : (bits .and .i64 (u : Int) 1 != 0) = (u % 2 == 1) ∧ (bits .and .i64 (u : Int) 2 != 0) = (u / 2 % 2 == 1) ∧ (bits .and .i64 (u : Int) 4 != 0) = (u / 4 % 2 == 1) ∧ (bits .and .i64 (u : Int) 8 != 0) = (u / 8 % 2 == 1) := by
 match u, A with
 | 0, _ => exact ⟨rfl, rfl, rfl, rfl⟩
 | 1, _ => exact ⟨rfl, rfl, rfl, rfl⟩
 | 2, _ => exact ⟨rfl, rfl, rfl, rfl⟩
 | 3, _ => exact ⟨rfl, rfl, rfl, rfl⟩
 | 4, _ => exact ⟨rfl, rfl, rfl, rfl⟩
 | 5, _ => exact ⟨rfl, rfl, rfl, rfl⟩
 | 6, _ => exact ⟨rfl, rfl, rfl, rfl⟩
 | 7, _ => exact ⟨rfl, rfl, rfl, rfl⟩
 | 8, _ => exact ⟨rfl, rfl, rfl, rfl⟩
 | 9, _ => exact ⟨rfl, rfl, rfl, rfl⟩
 | 10, _ => exact ⟨rfl, rfl, rfl, rfl⟩
 | 11, _ => exact ⟨rfl, rfl, rfl, rfl⟩
 | 12, _ => exact ⟨rfl, rfl, rfl, rfl⟩
 | 13, _ => exact ⟨rfl, rfl, rfl, rfl⟩
 | 14, _ => exact ⟨rfl, rfl, rfl, rfl⟩
 | 15, _ => exact ⟨rfl, rfl, rfl, rfl⟩
 | u + 16, h => omega
theorem aii {x : Int} {b : Bool} (h : (x != 0) = b) : (x == 0) = !b := by rw [← h]; unfold bne; rw [Bool.not_not]
structure EnOw (B : Nat) (w : World) (t : EnT) : Prop where
 p : Own B 64 12 aat w t.pv t.zu
 r : ∀ x ∈ t.zu, Rd (fun i => B ≤ i ∧ t.pv.ownBlock ≠ some i) w x.pr.app
 s : Own B 68 2 abc w t.tv t.zy
 d : ∀ b, t.pv.ownBlock = some b → t.tv.ownBlock ≠ some b
 wf : t.e.Wf
theorem EnOw.rd {B : Nat} {w : World} {t : EnT} (h : EnOw B w t) : EnRd (fun i => B ≤ i) w t :=
 ⟨h.p.slc aae, fun k e _ => h.p.ge e, fun x A => (h.r x A).weaken (fun i _ hi => hi.1), h.s.slc aa9, fun k e _ => h.s.ge e, h.wf⟩
theorem EnOw.pure {B : Nat} {w D : World} {t : EnT} (h : EnOw B w t) (A : Below w.heap.size w D) : EnOw B D t :=
 ⟨h.p.pure A, fun x E => (h.r x E).pure A, h.s.pure A, h.d, h.wf⟩
theorem EnOw.upd {S : Nat → Prop} {B : Nat} {w E : World} {t : EnT} (h : EnOw B w t) (D : Upd S w E) (A : ∀ k, B ≤ k → ¬ S k) : EnOw B E t :=
 ⟨h.p.upd D (fun k e => A k (h.p.ge e)), fun x F => (h.r x F).upd D (fun b G => A b G.1), h.s.upd D (fun k e => A k (h.s.ge e)), h.d, h.wf⟩
theorem EnOw.base {B C : Nat} {w : World} {t : EnT} (h : EnOw B w t) (A : C ≤ B) : EnOw C w t :=
 ⟨h.p.rebase (fun k e => jk A (h.p.ge e)), fun x D => (h.r x D).weaken (fun i _ hi => ⟨jk A hi.1, hi.2⟩), h.s.rebase (fun k e => jk A (h.s.ge e)), h.d, h.wf⟩
theorem EnRd.upd {S : Nat → Prop} {P : Nat → Prop} {w F : World} {t : EnT} (h : EnRd P w t) (D : Upd S w F) (A : ∀ k, P k → ¬ S k) : EnRd P F t :=
 ⟨h.p.updL D (fun E b e => A b (h.pP b e E)), h.pP, fun x G => (h.r x G).upd D A, h.s.updL D (fun E b e => A b (h.sP b e E)), h.sP, h.wf⟩
def one (v : Value) : Value := match v with | .slice a n c => .slice a n c | _ => .slice none 0 0
theorem ao9 (v : Value) : (one v).oneCell' = true := by unfold one; split <;> rfl
structure MsT where
 id : Int
 pr : PT
 body : ByteArray
def MsT.m (t : MsT) : Ms := ⟨t.id, t.pr.p, t.body⟩
def abl (t : MsT) : List Value := [.int .u64 t.id, .string t.pr.key, .bool t.pr.dur, .bool t.pr.red, .string t.pr.mid, .int .u8 t.pr.app.k, .int .u64 t.pr.app.n, .string t.pr.app.s, one t.pr.app.kv, one t.pr.app.lv, .string t.body]
theorem aac (t : MsT) : (abl t).length = 11 := rfl
theorem ag5 (t : MsT) : ∀ u ∈ abl t, u.oneCell' = true := by
 intro u A
 simp only [abl, List.mem_cons, List.not_mem_nil, or_false] at A
 rcases A with rfl | rfl | rfl | rfl | rfl | rfl | rfl | rfl | rfl | rfl | rfl <;> first | exact ao9 _ | rfl
structure QuT where
 name : ByteArray
 limit : Int
 mv : Value
 zw : List MsT
def QuT.q (t : QuT) : Qu := ⟨t.name, t.limit, t.zw.map MsT.m⟩
def aar (t : QuT) : List Value := [.string t.name, .int .u64 t.limit, one t.mv]
theorem aaf (t : QuT) : (aar t).length = 3 := rfl
theorem aea (t : QuT) : ∀ u ∈ aar t, u.oneCell' = true := by
 intro u A
 simp only [aar, List.mem_cons, List.not_mem_nil, or_false] at A
 rcases A with rfl | rfl | rfl <;> first | exact ao9 _ | rfl
structure BrT where
 x : Xn
 pv : Value
 tv : Value
 zu : List PtT
 zy : List Rf
def BrT.b (t : BrT) : Br := ⟨t.x, t.zu.map PtT.p, t.zy⟩
def BrT.en (t : BrT) : EnT := ⟨4, ⟨#[]⟩, 0, t.x, t.pv, t.tv, t.zu, t.zy⟩
theorem BrT.en_e (t : BrT) : t.en.e = t.b.en := rfl
def aa7 (t : BrT) : List Value := [.int .u32 t.x.1, .string t.x.2.1, .string t.x.2.2, one t.pv, one t.tv]
theorem aag (t : BrT) : (aa7 t).length = 5 := rfl
theorem aeb (t : BrT) : ∀ u ∈ aa7 t, u.oneCell' = true := by
 intro u A
 simp only [aa7, List.mem_cons, List.not_mem_nil, or_false] at A
 rcases A with rfl | rfl | rfl | rfl | rfl <;> first | exact ao9 _ | rfl
def adp (t : He) : List Value := [.int .u32 t.x.1, .string t.x.2.1, .string t.x.2.2, .bool t.c]
theorem adi (t : He) : (adp t).length = 4 := rfl
theorem anl (t : He) : ∀ u ∈ adp t, u.oneCell' = true := by simp [adp, Value.oneCell']
structure StT where
 next : Int
 qv : Value
 bv : Value
 hv : Value
 qs : List QuT
 zk : List BrT
 hs : List He
def StT.s (t : StT) : St := ⟨t.next, t.qs.map QuT.q, t.zk.map BrT.b, t.hs⟩
def StT.arg (t : StT) : Value := .agg #[.int .u64 t.next, t.qv, t.bv, t.hv]
theorem StT.arg_mk (n : Int) (qv bv A : Value) (qs : List QuT) (zk : List BrT) (hs : List He) : (StT.mk n qv bv A qs zk hs).arg = .agg #[.int .u64 n, qv, bv, A] := rfl
structure MsRd (P : Nat → Prop) (w : World) (v : Value) (l : List MsT) : Prop where
 s : Slc abl 11 w v l
 sP : ∀ k, v.ownBlock = some k → l ≠ [] → P k
 r : ∀ m ∈ l, Rd P w m.pr.app
 wf : ∀ m ∈ l, 0 ≤ m.id ∧ m.id < 18446744073709551616
theorem MsRd.pure {P : Nat → Prop} {w D : World} {v : Value} {l : List MsT} (h : MsRd P w v l) (A : Below w.heap.size w D) : MsRd P D v l := ⟨h.s.pure A, h.sP, fun m E => (h.r m E).pure A, h.wf⟩
theorem MsRd.upd {S P : Nat → Prop} {w D : World} {v : Value} {l : List MsT} (h : MsRd P w v l) (E : Upd S w D) (A : ∀ k, P k → ¬ S k) : MsRd P D v l := ⟨h.s.updL E (fun G b e => A b (h.sP b e G)), h.sP, fun m F => (h.r m F).upd E A, h.wf⟩
theorem MsRd.weaken {P Q : Nat → Prop} {w : World} {v : Value} {l : List MsT} (h : MsRd P w v l) (A : ∀ k, P k → Q k) : MsRd Q w v l := ⟨h.s, fun k e n => A k (h.sP k e n), fun m D => (h.r m D).weaken (fun k _ E => A k E), h.wf⟩
structure StRd (P : Nat → Prop) (w : World) (t : StT) : Prop where
 q : Slc aar 3 w t.qv t.qs
 qP : ∀ k, t.qv.ownBlock = some k → t.qs ≠ [] → P k
 m : ∀ q ∈ t.qs, MsRd P w q.mv q.zw
 b : Slc aa7 5 w t.bv t.zk
 bP : ∀ k, t.bv.ownBlock = some k → t.zk ≠ [] → P k
 e : ∀ b ∈ t.zk, EnRd P w b.en
 h : Slc adp 4 w t.hv t.hs
 hP : ∀ k, t.hv.ownBlock = some k → t.hs ≠ [] → P k
 n : 0 ≤ t.next ∧ t.next < 18446744073709551616
 ql : ∀ q ∈ t.qs, 0 ≤ q.limit ∧ q.limit < 18446744073709551616
 hx : ∀ h ∈ t.hs, 0 ≤ h.x.1 ∧ h.x.1 < 4294967296
theorem StRd.pure {P : Nat → Prop} {w D : World} {t : StT} (h : StRd P w t) (A : Below w.heap.size w D) : StRd P D t :=
 ⟨h.q.pure A, h.qP, fun q F => (h.m q F).pure A, h.b.pure A, h.bP, fun b E => (h.e b E).pure A, h.h.pure A, h.hP, h.n, h.ql, h.hx⟩
theorem StRd.upd {S P : Nat → Prop} {w F : World} {t : StT} (h : StRd P w t) (D : Upd S w F) (A : ∀ k, P k → ¬ S k) : StRd P F t :=
 ⟨h.q.updL D (fun E b e => A b (h.qP b e E)), h.qP, fun q H => (h.m q H).upd D A, h.b.updL D (fun E b e => A b (h.bP b e E)), h.bP, fun b G => (h.e b G).upd D A, h.h.updL D (fun E b e => A b (h.hP b e E)), h.hP, h.n, h.ql, h.hx⟩
theorem StRd.weaken {P Q : Nat → Prop} {w : World} {t : StT} (h : StRd P w t) (A : ∀ k, P k → Q k) : StRd Q w t :=
 ⟨h.q, fun k e n => A k (h.qP k e n), fun q D => (h.m q D).weaken A, h.b, fun k e n => A k (h.bP k e n), fun b E => (h.e b E).weaken A, h.h, fun k e n => A k (h.hP k e n), h.n, h.ql, h.hx⟩
theorem StRd.open {P : Nat → Prop} {w : World} {t : StT} (h : StRd P w t) : ∃ (n : Int) (G : Option Addr) (qc : Nat) (D : Option Addr) (E : Nat) (F : Option Addr) (A : Nat) (qs : List QuT) (zk : List BrT) (hs : List He),
 t = StT.mk n (.slice G qs.length qc) (.slice D zk.length E) (.slice F hs.length A) qs zk hs ∧ qs.length ≤ maxLen ∧ zk.length ≤ maxLen ∧ hs.length ≤ maxLen := by
 obtain ⟨n, qv, bv, J, qs, zk, hs⟩ := t
 obtain ⟨G, qc, rfl, K⟩ : ∃ a c, qv = .slice a qs.length c ∧ qs.length ≤ maxLen := h.q.len
 obtain ⟨D, E, rfl, H⟩ : ∃ a c, bv = .slice a zk.length c ∧ zk.length ≤ maxLen := h.b.len
 obtain ⟨F, A, rfl, I⟩ : ∃ a c, J = .slice a hs.length c ∧ hs.length ≤ maxLen := h.h.len
 exact ⟨n, G, qc, D, E, F, A, qs, zk, hs, rfl, K, H, I⟩
theorem aga {P : Nat → Prop} {w : World} {g off n U : Nat} {L : List MsT} (h : Slc abl 11 w (.slice (some ⟨g, off, none⟩) n U) L) {i : Nat} (hi : i < L.length) (M : Rd P w L[i].pr.app) :
 ∃ (id : Int) (key : ByteArray) (I red : Bool) (mid : ByteArray) (O N : Int) (us : ByteArray) (H : Option Addr) (K : Nat) (G : Option Addr) (J : Nat) (D : List ByteArray) (E : List VT) (F : ByteArray),
 L[i] = (MsT.mk id (PT.mk key I red mid (VT.mk O N us (.slice H D.length K) (.slice G E.length J) D E)) F) ∧ w.cell? ⟨g, off + i * 11, none⟩ = some (.int .u64 id) ∧ w.cell? ⟨g, off + i * 11 + 1, none⟩ = some (.string key) ∧ w.cell? ⟨g, off + i * 11 + 2, none⟩ = some (.bool I) ∧ w.cell? ⟨g, off + i * 11 + 3, none⟩ = some (.bool red) ∧ w.cell? ⟨g, off + i * 11 + 4, none⟩ = some (.string mid) ∧ w.cell? ⟨g, off + i * 11 + 5, none⟩ = some (.int .u8 O) ∧ w.cell? ⟨g, off + i * 11 + 6, none⟩ = some (.int .u64 N) ∧ w.cell? ⟨g, off + i * 11 + 7, none⟩ = some (.string us) ∧ w.cell? ⟨g, off + i * 11 + 8, none⟩ = some (.slice H D.length K) ∧ w.cell? ⟨g, off + i * 11 + 9, none⟩ = some (.slice G E.length J) ∧ w.cell? ⟨g, off + i * 11 + 10, none⟩ = some (.string F) := by
 have A := fun j u (W : (abl L[i])[j]? = some u) => h.get i hi j u W
 rcases hx : L[i] with ⟨id, ⟨key, I, red, mid, app⟩, F⟩
 rw [hx] at A M
 have M : Rd P w app := M
 obtain ⟨O, N, us, H, K, G, J, D, E, rfl, -⟩ := M.open
 exact ⟨id, key, I, red, mid, O, N, us, H, K, G, J, D, E, F, rfl, A 0 _ rfl, A 1 _ rfl, A 2 _ rfl, A 3 _ rfl, A 4 _ rfl, A 5 _ rfl, A 6 _ rfl, A 7 _ rfl, A 8 _ rfl, A 9 _ rfl, A 10 _ rfl⟩
theorem afh {w : World} {g off n U : Nat} {L : List MsT} (h : Slc abl 11 w (.slice (some ⟨g, off, none⟩) n U) L) {i : Nat} (hi : i < L.length) {id : Int} {key mid us D : ByteArray} {H red : Bool} {N M : Int} {G E : Option Addr} {F K I J : Nat} {O : List ByteArray} {Y : List VT} (W : L[i] = MsT.mk id (PT.mk key H red mid (VT.mk N M us (.slice G F I) (.slice E K J) O Y)) D) :
 w.cell? ⟨g, off + i * 11, none⟩ = some (.int .u64 id) ∧ w.cell? ⟨g, off + i * 11 + 1, none⟩ = some (.string key) ∧ w.cell? ⟨g, off + i * 11 + 2, none⟩ = some (.bool H) ∧ w.cell? ⟨g, off + i * 11 + 3, none⟩ = some (.bool red) ∧ w.cell? ⟨g, off + i * 11 + 4, none⟩ = some (.string mid) ∧ w.cell? ⟨g, off + i * 11 + 5, none⟩ = some (.int .u8 N) ∧ w.cell? ⟨g, off + i * 11 + 6, none⟩ = some (.int .u64 M) ∧ w.cell? ⟨g, off + i * 11 + 7, none⟩ = some (.string us) ∧ w.cell? ⟨g, off + i * 11 + 8, none⟩ = some (.slice G F I) ∧ w.cell? ⟨g, off + i * 11 + 9, none⟩ = some (.slice E K J) ∧ w.cell? ⟨g, off + i * 11 + 10, none⟩ = some (.string D) := by
 have A := fun j u (X : (abl L[i])[j]? = some u) => h.get i hi j u X
 rw [W] at A
 exact ⟨A 0 _ rfl, A 1 _ rfl, A 2 _ rfl, A 3 _ rfl, A 4 _ rfl, A 5 _ rfl, A 6 _ rfl, A 7 _ rfl, A 8 _ rfl, A 9 _ rfl, A 10 _ rfl⟩
theorem aby {w : World} {g off n I : Nat} {L : List QuT} (h : Slc aar 3 w (.slice (some ⟨g, off, none⟩) n I) L) {i : Nat} (hi : i < L.length) {D : ByteArray} {E : Int} {H : Option Addr} {F G : Nat} {zw : List MsT} (J : L[i] = QuT.mk D E (.slice H F G) zw) : w.cell? ⟨g, off + i * 3, none⟩ = some (.string D) ∧ w.cell? ⟨g, off + i * 3 + 1, none⟩ = some (.int .u64 E) ∧ w.cell? ⟨g, off + i * 3 + 2, none⟩ = some (.slice H F G) := by
 have A := fun j u (K : (aar L[i])[j]? = some u) => h.get i hi j u K
 rw [J] at A
 exact ⟨A 0 _ rfl, A 1 _ rfl, A 2 _ rfl⟩
theorem ach {w : World} {g off n N : Nat} {L : List BrT} (h : Slc aa7 5 w (.slice (some ⟨g, off, none⟩) n N) L) {i : Nat} (hi : i < L.length) {E : Int} {D I : ByteArray} {K G : Option Addr} {J H F M : Nat} {X : List PtT} {W : List Rf} (O : L[i] = BrT.mk (E, D, I) (.slice K J H) (.slice G F M) X W) : w.cell? ⟨g, off + i * 5, none⟩ = some (.int .u32 E) ∧ w.cell? ⟨g, off + i * 5 + 1, none⟩ = some (.string D) ∧ w.cell? ⟨g, off + i * 5 + 2, none⟩ = some (.string I) ∧ w.cell? ⟨g, off + i * 5 + 3, none⟩ = some (.slice K J H) ∧ w.cell? ⟨g, off + i * 5 + 4, none⟩ = some (.slice G F M) := by
 have A := fun j u (U : (aa7 L[i])[j]? = some u) => h.get i hi j u U
 rw [O] at A
 exact ⟨A 0 _ rfl, A 1 _ rfl, A 2 _ rfl, A 3 _ rfl, A 4 _ rfl⟩
theorem aco {w : World} {g off n G : Nat} {L : List He} (h : Slc adp 4 w (.slice (some ⟨g, off, none⟩) n G) L) {i : Nat} (hi : i < L.length) {E : Int} {D F : ByteArray} {c : Bool} (H : L[i] = ⟨(E, D, F), c⟩) : w.cell? ⟨g, off + i * 4, none⟩ = some (.int .u32 E) ∧ w.cell? ⟨g, off + i * 4 + 1, none⟩ = some (.string D) ∧ w.cell? ⟨g, off + i * 4 + 2, none⟩ = some (.string F) ∧ w.cell? ⟨g, off + i * 4 + 3, none⟩ = some (.bool c) := by
 have A := fun j u (I : (adp L[i])[j]? = some u) => h.get i hi j u I
 rw [H] at A
 exact ⟨A 0 _ rfl, A 1 _ rfl, A 2 _ rfl, A 3 _ rfl⟩
theorem aep {P : Nat → Prop} {w : World} {g off n I : Nat} {L : List QuT} (h : Slc aar 3 w (.slice (some ⟨g, off, none⟩) n I) L) {i : Nat} (hi : i < L.length) (H : MsRd P w L[i].mv L[i].zw) :
 ∃ (A : ByteArray) (D : Int) (G : Option Addr) (F : Nat) (zw : List MsT), L[i] = QuT.mk A D (.slice G zw.length F) zw ∧ zw.length ≤ maxLen ∧ w.cell? ⟨g, off + i * 3, none⟩ = some (.string A) ∧ w.cell? ⟨g, off + i * 3 + 1, none⟩ = some (.int .u64 D) ∧ w.cell? ⟨g, off + i * 3 + 2, none⟩ = some (.slice G zw.length F) := by
 have E := fun j u (J : (aar L[i])[j]? = some u) => h.get i hi j u J
 rcases hx : L[i] with ⟨A, D, mv, zw⟩
 rw [hx] at E H
 obtain ⟨G, F, rfl, K⟩ : ∃ a c, mv = .slice a zw.length c ∧ zw.length ≤ maxLen := H.s.len
 exact ⟨A, D, G, F, zw, rfl, K, E 0 _ rfl, E 1 _ rfl, E 2 _ rfl⟩
theorem adq {P : Nat → Prop} {w : World} {g off n O : Nat} {L : List BrT} (h : Slc aa7 5 w (.slice (some ⟨g, off, none⟩) n O) L) {i : Nat} (hi : i < L.length) (N : EnRd P w L[i].en) :
 ∃ (G : Int) (F J : ByteArray) (K : Option Addr) (I : Nat) (H : Option Addr) (M : Nat) (D : List PtT) (A : List Rf), L[i] = BrT.mk (G, F, J) (.slice K D.length I) (.slice H A.length M) D A ∧ D.length ≤ maxLen ∧ A.length ≤ maxLen ∧ w.cell? ⟨g, off + i * 5, none⟩ = some (.int .u32 G) ∧ w.cell? ⟨g, off + i * 5 + 1, none⟩ = some (.string F) ∧ w.cell? ⟨g, off + i * 5 + 2, none⟩ = some (.string J) ∧ w.cell? ⟨g, off + i * 5 + 3, none⟩ = some (.slice K D.length I) ∧ w.cell? ⟨g, off + i * 5 + 4, none⟩ = some (.slice H A.length M) := by
 have E := fun j u (X : (aa7 L[i])[j]? = some u) => h.get i hi j u X
 rcases hx : L[i] with ⟨⟨G, F, J⟩, U, Z, D, A⟩
 rw [hx] at E N
 obtain ⟨K, I, rfl, Y⟩ : ∃ a c, U = .slice a D.length c ∧ D.length ≤ maxLen := N.p.len
 obtain ⟨H, M, rfl, W⟩ : ∃ a c, Z = .slice a A.length c ∧ A.length ≤ maxLen := N.s.len
 exact ⟨G, F, J, K, I, H, M, D, A, rfl, Y, W, E 0 _ rfl, E 1 _ rfl, E 2 _ rfl, E 3 _ rfl, E 4 _ rfl⟩
theorem agb {w : World} {g off n G : Nat} {L : List He} (h : Slc adp 4 w (.slice (some ⟨g, off, none⟩) n G) L) {i : Nat} (hi : i < L.length) :
 ∃ (E : Int) (D F : ByteArray) (c : Bool), L[i] = ⟨(E, D, F), c⟩ ∧ w.cell? ⟨g, off + i * 4, none⟩ = some (.int .u32 E) ∧ w.cell? ⟨g, off + i * 4 + 1, none⟩ = some (.string D) ∧ w.cell? ⟨g, off + i * 4 + 2, none⟩ = some (.string F) ∧ w.cell? ⟨g, off + i * 4 + 3, none⟩ = some (.bool c) := by
 have A := fun j u (H : (adp L[i])[j]? = some u) => h.get i hi j u H
 rcases hx : L[i] with ⟨⟨E, D, F⟩, c⟩
 rw [hx] at A
 exact ⟨E, D, F, c, rfl, A 0 _ rfl, A 1 _ rfl, A 2 _ rfl, A 3 _ rfl⟩
def acv {α κ : Type} (c : κ → κ → Int) (k : α → κ) (L : List α) (x : κ) : Bool := L.any (fun a => decide (c (k a) x = 0))
theorem adr {E A : Type} {c : A → A → Int} (D : IsCmp c) {k : E → A} {L : List E} {x : A} : acv c k L x = true ↔ ∃ a ∈ L, k a = x := by
 unfold acv
 rw [List.any_eq_true]
 exact ⟨fun ⟨a, h, e⟩ => ⟨a, h, (D.eq _ _).1 (qt e)⟩, fun ⟨a, h, e⟩ => ⟨a, h, qp ((D.eq _ _).2 e)⟩⟩
abbrev RisK {α κ : Type} (c : κ → κ → Int) (k : α → κ) (L : List α) : Prop := L.Pairwise (fun a b => c (k a) (k b) < 0)
theorem ayh {D A : Type} {c : A → A → Int} (F : IsCmp c) {k : D → A} {L : List D} (h : RisK c k L) {i j : Nat} (hi : i < L.length) (G : j < L.length) (E : i ≤ j) : c (k L[i]) (k L[j]) ≤ 0 := by
 rcases Nat.lt_or_eq_of_le E with q | q
 ·exact Int.le_of_lt (List.pairwise_iff_getElem.1 h i j hi G q)
 ·subst q; exact Int.le_of_eq (F.refl _)
theorem amg {E A : Type} {c : A → A → Int} (D : IsCmp c) {k : E → A} {L : List E} {x : A} (h : RisK c k L) {i : Nat} (hi : i < L.length) (G : c (k L[i]) x < 0) : ∀ j, (F : j < L.length) → j < i + 1 → c (k L[j]) x < 0 :=
 fun j F H => D.le_lt (ayh D h F hi (by omega)) G
theorem aij {E A : Type} {c : A → A → Int} (D : IsCmp c) {k : E → A} {L : List E} {x : A} (h : RisK c k L) {i : Nat} (hi : i < L.length) (I : ¬ c (k L[i]) x < 0) : ∀ j, (F : j < L.length) → i ≤ j → 0 ≤ c (k L[j]) x := fun j F H => by
 by_cases G : c (k L[j]) x < 0
 ·exact jp (D.le_lt (ayh D h hi F H) G) I
 ·omega
theorem amh {G D : Type} {c : D → D → Int} (J : IsCmp c) {k : G → D} {L : List G} {x : D} {i : Nat} (M : RisK c k L) (hi : i ≤ L.length) (H : ∀ j, (A : j < L.length) → j < i → c (k L[j]) x < 0) (F : ∀ j, (A : j < L.length) → i ≤ j → 0 ≤ c (k L[j]) x) :
 lbK c k L x = i ∧ acv c k L x = decide (∃ h : i < L.length, c (k L[i]) x = 0) := by
 refine ⟨azb hi H (fun h => by have := F i h (qj _); omega), ?_⟩
 rw [Bool.eq_iff_iff, qm]
 unfold acv
 rw [List.any_eq_true]
 constructor
 ·rintro ⟨a, K, e⟩
  obtain ⟨j, A, rfl⟩ := List.getElem_of_mem K; have e := qt e
  have I : i ≤ j := by
   rcases Nat.lt_or_ge j i with q | q
   ·have := H j A q; omega
   ·exact q
  rcases Nat.lt_or_eq_of_le I with q | q
  ·have E : i < L.length := by omega
   have O := J.lt_le (List.pairwise_iff_getElem.1 M i j E A q) (Int.le_of_eq e); have N := F i E (qj _); omega
  ·subst q; exact ⟨A, e⟩
 ·rintro ⟨h, e⟩
  exact ⟨L[i], qy h, qp e⟩
theorem aec {F A : Type} {c : A → A → Int} (D : IsCmp c) {k : F → A} {L : List F} {x : A} (I : RisK c k L) (h : acv c k L x = true) : ∃ h : lbK c k L x < L.length, k L[lbK c k L x] = x := by
 obtain ⟨a, H, e⟩ := (adr D).1 h
 obtain ⟨j, E, rfl⟩ := List.getElem_of_mem H
 have J : lbK c k L x = j := azb (by omega) (fun i hi G => by
  have := List.pairwise_iff_getElem.1 I i j hi E G
  rw [e] at this; exact this) (fun _ => by rw [e, D.refl]; omega)
 rw [J]
 exact ⟨E, e⟩
theorem ad6 {D E A : Type} {c : A → A → Int} {k : E → A} {g : D → E} {L : List D} : RisK c k (L.map g) ↔ RisK c (fun a => k (g a)) L := List.pairwise_map
theorem ajn {P : Prop} (h : P := by
 simp only [jv]
 exact ⟨fun ⟨a, h, e⟩ => ⟨_, ⟨a, h, rfl⟩, e⟩, fun ⟨_, ⟨a, h, rfl⟩, e⟩ => ⟨a, h, e⟩⟩) : P := h
theorem anm (qs : List QuT) (n : ByteArray) : acv abf QuT.name qs n = ad0 (qs.map QuT.q) n := by
 rw [Bool.eq_iff_iff, adr cmpB_ok, ag4]
 exact ajn
theorem bbt (l : List BrT) (x : Xn) : acv aav BrT.x l x = amu (l.map BrT.b) x := by
 rw [Bool.eq_iff_iff, adr cmpX_ok, awi]
 exact ajn
theorem bc9 (l : List He) (x : Xn) : acv aav He.x l x = ard l x := by
 rw [Bool.eq_iff_iff, adr cmpX_ok, awj]
theorem awq {n : Int} {qs : List QuT} (h : qsB n (qs.map QuT.q) = true) : RisK abf QuT.name qs := by
 unfold qsB at h
 rw [jj, ad4 cmpB_ok] at h
 exact (ad6 (c := abf) (k := Qu.name) (g := QuT.q)).1 h.2
theorem bd3 {n : Int} {qs : List QuT} (h : qsB n (qs.map QuT.q) = true) {q : QuT} (D : q ∈ qs) : RisK ad8 MsT.id q.zw := by
 unfold qsB at h
 simp only [jj, jt] at h
 have A := h.1 q.q (jv.2 ⟨q, D, rfl⟩)
 unfold Qu.okB at A
 rw [jj, ad4 cmpI_ok] at A
 exact (ad6 (c := ad8) (k := Ms.id) (g := MsT.m)).1 A.2
theorem bd4 {qs : List Qu} {l : List BrT} (h : ane qs (l.map BrT.b) = true) : RisK aav BrT.x l := by
 unfold ane at h
 rw [jj, ad4 cmpX_ok] at h
 exact (ad6 (c := aav) (k := Br.x) (g := BrT.b)).1 h.2
theorem azp {qs : List QuT} {n : Int} {r : Rf} (h : qsB n (qs.map QuT.q) = true) :
 hasM (qs.map QuT.q) r = (ad0 (qs.map QuT.q) r.q && (if K : lbK abf QuT.name qs r.q < qs.length then acv ad8 MsT.id (qs[lbK abf QuT.name qs r.q]).zw r.id else false)) := by
 rw [Bool.eq_iff_iff, ad1, jj, ← anm]
 have D := awq h
 constructor
 ·rintro ⟨q, N, J, m, F, hi⟩
  obtain ⟨t, M, rfl⟩ := jv.1 N; have G : acv abf QuT.name qs r.q = true := (adr cmpB_ok).2 ⟨t, M, J⟩; obtain ⟨A, E⟩ := aec cmpB_ok D G; refine ⟨G, ?_⟩; rw [dif_pos A]
  have e : qs[lbK abf QuT.name qs r.q] = t := by
   obtain ⟨j, I, rfl⟩ := List.getElem_of_mem M
   have K : lbK abf QuT.name qs r.q = j := by
    have H : (qs[j]).name = r.q := J; rcases Nat.lt_trichotomy (lbK abf QuT.name qs r.q) j with q | q | q
    ·have := List.pairwise_iff_getElem.1 D _ _ A I q; rw [E, H, cmpB_ok.refl] at this; omega
    ·exact q
    ·have := List.pairwise_iff_getElem.1 D _ _ I A q; rw [E, H, cmpB_ok.refl] at this; omega
   simp only [K]
  rw [e]; obtain ⟨y, hy, rfl⟩ := jv.1 F; exact (adr cmpI_ok).2 ⟨y, hy, hi⟩
 ·rintro ⟨G, F⟩
  obtain ⟨A, E⟩ := aec cmpB_ok D G; rw [dif_pos A] at F; obtain ⟨y, hy, hi⟩ := (adr cmpI_ok).1 F; exact ⟨_, jv.2 ⟨_, qy A, rfl⟩, E, _, jv.2 ⟨y, hy, rfl⟩, hi⟩
theorem bda (w : World) (x : Int) : Calls prog 154 #[.int .u32 x] w fun e A => e = .returned (.bool false) ∧ w = A := by
 go_enter func154, ntmps154
 go_wp2
 go_ret
 exact ⟨by simp, rfl⟩
theorem ahj {P : Prop} (h : P := by
 go_enter func118, ntmps118
 go_wp2_with (first | (go_at_call 154; refine (bda _ _).mono ?_; rintro e w' ⟨rfl, rfl⟩))
 go_ret
 exact ⟨rfl, rfl⟩) : P := h
theorem bdb (w : World) (a b : Int) : Calls prog 118 #[.int .u32 a, .int .u32 b] w fun e w' => e = .returned (.int .i64 (ad8 a b)) ∧ w = w' := by
 unfold ad8
 by_cases D : a < b
 ·rw [qw D]
  exact ahj
 ·rw [qk D]
  by_cases A : b < a
  ·rw [qw A]
   exact ahj
  ·rw [qk A]
   exact ahj
theorem awr (w : World) (a b : ByteArray) : Calls prog 153 #[.string a, .string b] w fun e A => e = .returned (.int .i64 (abf a b)) ∧ w = A := by
 go_enter func153, ntmps153
 go_wp2
 rw [run_callFunc_extern func189 (by kernel_rfl) (by kernel_rfl) (by kernel_rfl) (e := Extern.BytealgCompare.compare) (by kernel_rfl), Lib.run_compareString]
 simp only [Result.andThen]
 rw [Oper.upon_value]
 go_wp2
 go_ret
 exact ⟨rfl, rfl⟩
theorem apa (w : World) (a b : ByteArray) : Calls prog 114 #[.string a, .string b] w fun e A => e = .returned (.int .i64 (abf a b)) ∧ w = A := by
 go_enter func114, ntmps114
 go_wp2_with (go_at_call 153; refine (awr _ _ _).mono ?_; rintro e A ⟨rfl, rfl⟩)
 go_ret
 exact ⟨rfl, rfl⟩
theorem bbu (w : World) (v : Value) (L : List Int) (hs : Slc (anb .i64) 1 w v L) : Calls prog 117 #[v] w fun e K => e = .returned (.int .i64 (orI L)) ∧ w = K := by
 obtain ⟨a, N, rfl, M⟩ := hs.len
 unfold maxLen at M
 go_enter func117, ntmps117
 go_wp2
 go_loop [8] (fun G => ∃ k : Nat, k ≤ L.length ∧ G = .int .i64 k ∧ ∀ j, (A : j < L.length) → j < k → L[j] = 0) (fun G => L.length - (intOf G).toNat)
 case atStart => exact ⟨0, by omega, rfl, fun j A h => by omega⟩
 case round =>
  obtain ⟨k, U, rfl, I⟩ := hrel; have E := qq I; clear I; by_cases H : k < L.length
  ·obtain ⟨g, off, rfl, W⟩ := hs.load k H
   by_cases D : L[k] = 0
   ·have J : (L[k] != 0) = false := by rw [D]; rfl
    have F := qq D; clear D; go_wp2; go_round
    case rel => exact ⟨k + 1, by omega, by go_num, fun j A O => by
     rcases Nat.lt_or_ge j k with h | h
     ·exact E.out j A h
     ·have : j = k := by omega
      subst this; exact F.out⟩
    case measure => simp [intOf]; omega
   ·have J : (L[k] != 0) = true := by simpa using D
    have F := qq D; clear D; go_wp2; go_ret; exact ⟨by rw [awe H (fun j A => E.out j (by omega) A), qw F.out]; rfl, rfl⟩
  ·obtain rfl : k = L.length := by omega
   go_wp2; go_ret; exact ⟨by rw [awf (fun j A => E.out j A A)]; rfl, rfl⟩
theorem aws {w : World} {g : Nat} {a b c : Int} (F : w.cell? ⟨g, 0, none⟩ = some (.int .i64 a)) (D : w.cell? ⟨g, 1, none⟩ = some (.int .i64 b)) (G : w.cell? ⟨g, 2, none⟩ = some (.int .i64 c)) :
 Calls prog 117 #[.slice (some ⟨g, 0, none⟩) 3 3] w fun e E => e = .returned (.int .i64 (orI [a, b, c])) ∧ w = E :=
 bbu w _ [a, b, c] (.inr ⟨g, 0, 3, rfl, by simp, by unfold maxLen; omega, fun i hi j u A => by
  match i, hi with
  | 0, _ => match j with
   | 0 => exact F.trans A
   | j + 1 => simp [anb] at A
  | 1, _ => match j with
   | 0 => exact D.trans A
   | j + 1 => simp [anb] at A
  | 2, _ => match j with
   | 0 => exact G.trans A
   | j + 1 => simp [anb] at A⟩)
theorem Slc.drew {A : Type} {enc : A → List Value} {m : Nat} {w : World} {v : Value} {L : List A} (h : Slc enc m w v L) : Slc enc m w.drew v L := h
theorem atx {B : Nat} {a w : World} (h : Below B a w) (n : Nat) : Below B a (w.drewN n) := ⟨h.os, h.tape, h.output, h.size, h.block⟩
theorem ami (W : World) (A : List Value) (T : TypeId) (g : Nat) (D : g = W.heap.size) (i : Nat) : (W.alloc (.cells A.toArray T)).drew.cell? ⟨g, i, none⟩ = A[i]? := by
 subst D; exact (Blk.new W A T).cell i
theorem ajo (w : World) (x y : Xid) :
 Calls prog 51 #[.agg #[.int .u32 x.1, .string x.2.1, .string x.2.2], .agg #[.int .u32 y.1, .string y.2.1, .string y.2.2]] w fun e A => e = .returned (.int .i64 (aav x y)) ∧ Below w.heap.size w A := by
 obtain ⟨F, E, I⟩ := x
 obtain ⟨H, D, G⟩ := y
 simp only
 have J : orI [ad8 F H, abf E D, abf I G] = aav (F, E, I) (H, D, G) := by simp only [orI, aav, ay9, atk]; split <;> (try split) <;> (try split) <;> simp_all
 have K := qq J; clear J
 go_enter func51, ntmps51
 go_wp2
 go_region_held3 (fun A => A.cell? ⟨w.heap.size, 0, none⟩ = some (.int .u32 F) ∧ A.cell? ⟨w.heap.size, 1, none⟩ = some (.string E) ∧ A.cell? ⟨w.heap.size, 2, none⟩ = some (.string I) ∧ A.cell? ⟨w.heap.size + 1, 0, none⟩ = some (.int .u32 H) ∧ A.cell? ⟨w.heap.size + 1, 1, none⟩ = some (.string D) ∧ A.cell? ⟨w.heap.size + 1, 2, none⟩ = some (.string G)) (go_keep)
  (first | (go_at_call 118; refine (bdb _ _ _).mono ?_; rintro e A ⟨rfl, rfl⟩) | (go_at_call 114; refine (apa _ _ _).mono ?_; rintro e A ⟨rfl, rfl⟩) | (go_at_call 117; refine (aws (a := ad8 F H) (b := abf E D) (c := abf I G) (ami _ _ _ _ ?_ 0) (ami _ _ _ _ ?_ 1) (ami _ _ _ _ ?_ 2)).mono ?_; (simp); (simp); (simp); rintro e A ⟨rfl, rfl⟩))
 go_wp2
 go_ret
 exact ⟨by rw [K.out]; rfl, aad ((((qz _ _).alloc (qj _) _).alloc (by simp) _).alloc (by simp; omega) _)⟩
theorem aty : (prog.info? 34).map (fun i => (i.zero, i.size)) = some (some (.agg #[.int .u8 0, .string ⟨#[]⟩, .int .u64 0, .int .u32 0, .string ⟨#[]⟩, .string ⟨#[]⟩, .slice none 0 0, .slice none 0 0]), 8) := by kernel_rfl
theorem ahk : (prog.info? 30).map (fun i => (i.zero, i.size)) = some (some (.agg #[.int .u32 0, .string ⟨#[]⟩, .string ⟨#[]⟩]), 3) := by kernel_rfl
theorem aba {S : Nat → Prop} {w A : World} (h : Upd S w A) (B : Nat) (j : Nat) (v : Value) (D : S B) : Upd S w (A.setCell ⟨B, j, none⟩ v) := h.trans (Upd.set (S := S) (p := ⟨B, j, none⟩) D v) (fun _ h _ => h)
theorem Blk.newE (w : World) (A : List Value) (T : TypeId) (k : Nat) (h : w.heap.size = k) : Blk (w.alloc (.cells A.toArray T)) k A := h ▸ Blk.new w A T
end Go.Proofs.YtgnaifhmcllnlaaGreatDoor
