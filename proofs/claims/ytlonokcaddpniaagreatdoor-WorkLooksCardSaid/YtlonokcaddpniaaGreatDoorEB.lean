/- Entries: Check, the program's. Conditions: utf8's tables are laid. Written by gen_enD.py. (Texts joined.) -/
import Derived.Test.YtlonokcaddpniaaGreatDoorEA
import Derived.Test.YtlonokcaddpniaaGreatDoorPD
set_option linter.unusedSimpArgs false
set_option linter.unusedVariables false
namespace Go.Proofs.YtlonokcaddpniaaGreatDoor
open Go.RowKit
theorem bytes_beq (a b : ByteArray) : (a.toList == b.toList) = (a == b) := (beq_toListBytes a b).symm
set_option maxRecDepth 100000 in
set_option maxHeartbeats 800000 in
theorem xid_neq (w : World) (xf yf : Int) (xg xb yg yb : ByteArray) : (binOp .neq 55 (.agg #[.int .u32 xf, .string xg, .string xb]) (.agg #[.int .u32 yf, .string yg, .string yb])).run Tryz.prog w = .ok (.bool ((xf, xg, xb) != (yf, yg, yb))) w := by
  have hf : Tryz.prog.fieldsOf 55 = (match Tryz.prog.underlying 55 with | some (.struct fs) => fs | _ => #[]) := rfl; rw [Tryz.underlying55] at hf; simp only at hf; rw [run_neq_struct, show (10000 : Nat) = 9999 + 1 from rfl, run_equalIn_agg w 9999 _ _ _ (by rw [hf]; exact Tryz.underlying55) (by kernel_rfl), hf]; have hh : ((xf, xg, xb) != (yf, yg, yb)) = !(xf == yf && (xg == yg && xb == yb)) := rfl; rw [hh]; cases h1 : (xf == yf) <;> cases h2 : (xg == yg) <;> cases h3 : (xb == yb) <;> simp [go_sem, bytes_beq, h1, h2, h3]
theorem xid_check (w : World) (x : Xn) :
    Calls Tryz.prog 46 #[.agg #[.int .u32 x.1, .string x.2.1, .string x.2.2]] w fun e w' => e = .returned (.int .i64 (if 0 < x.2.1.size ∧ x.2.1.size ≤ 64 ∧ x.2.2.size ≤ 64 then 0 else 40)) ∧ Below w.heap.size w w' := by
  obtain ⟨xf, xg, xb⟩ := x; simp only; by_cases h0 : 0 < xg.size
  · have he := empty_no h0; by_cases h1 : xg.size ≤ 64
    · by_cases h2 : xb.size ≤ 64
      · rw [if_pos ⟨h0, h1, h2⟩]; have g1 : ¬ 64 < xg.size := by omega
        have g2 : ¬ 64 < xb.size := by omega
        go_enter Tryz.func46, Tryz.ntmps46; go_wp2; go_ret; exact ⟨rfl, (Below.refl _ _).alloc (Nat.le_refl _) _⟩
      · rw [if_neg (fun h => h2 h.2.2)]; have g1 : ¬ 64 < xg.size := by omega
        have g2 : 64 < xb.size := by omega
        go_enter Tryz.func46, Tryz.ntmps46; go_wp2; go_ret; exact ⟨rfl, (Below.refl _ _).alloc (Nat.le_refl _) _⟩
    · rw [if_neg (fun h => h1 h.2.1)]; have g1 : 64 < xg.size := by omega
      go_enter Tryz.func46, Tryz.ntmps46; go_wp2; go_ret; exact ⟨rfl, (Below.refl _ _).alloc (Nat.le_refl _) _⟩
  · rw [if_neg (fun h => h0 h.1)]; have he := empty_yes (show xg.size = 0 by omega); go_enter Tryz.func46, Tryz.ntmps46; go_wp2; go_ret; exact ⟨rfl, (Below.refl _ _).alloc (Nat.le_refl _) _⟩
theorem xn_chk (w : World) (xf : Int) (xg xb : ByteArray) : Calls Tryz.prog 46 #[.agg #[.int .u32 xf, .string xg, .string xb]] w fun e w' => e = .returned (.int .i64 (if Xn.okB (xf, xg, xb) then 0 else 40)) ∧ Below w.heap.size w w' := by
  refine (xid_check w (xf, xg, xb)).mono fun e w' ⟨he, hB⟩ => ⟨?_, hB⟩
  rw [he]; unfold Xn.okB; by_cases h : 0 < xg.size ∧ xg.size ≤ 64 ∧ xb.size ≤ 64
  · simp [h.1, h.2.1, h.2.2]
  · rw [if_neg h, if_neg (fun e => h (by simpa [and_assoc] using e))]
theorem entry_info : (Tryz.prog.info? 57).map (fun i => (i.zero, i.size)) = some (some (.agg #[.int .u8 0, .string ⟨#[]⟩, .int .u64 0, .int .u32 0, .string ⟨#[]⟩, .string ⟨#[]⟩, .slice none 0 0, .slice none 0 0]), 8) := by kernel_rfl
theorem xid_info : (Tryz.prog.info? 55).map (fun i => (i.zero, i.size)) = some (some (.agg #[.int .u32 0, .string ⟨#[]⟩, .string ⟨#[]⟩]), 3) := by kernel_rfl
set_option maxRecDepth 100000 in
set_option maxHeartbeats 3200000 in
theorem esmall_any (t : PT) (P : Nat → Prop) (w : World) (hR : Rd P w t.app) (hT : Tb w) : Calls Tryz.prog 96 #[t.arg] w fun e w' => e = .returned (.bool t.p.smallB) ∧ Below w.heap.size w w' := by
  obtain ⟨key, dur, red, mid, tv⟩ := t; have hR : Rd _ _ tv := hR; obtain ⟨tk, tn, ts, tka, tkc, tla, tlc, tks, tl, rfl, -⟩ := hR.open; have hB1 := (Below.refl w.heap.size w).alloc (Nat.le_refl _) (.cells #[.string key, .bool dur, .bool red, .string mid, .int .u8 tk, .int .u64 tn, .string ts, .slice tka tks.length tkc, .slice tla tl.length tlc] 33); have A1 := Blk.new w [.string key, .bool dur, .bool red, .string mid, .int .u8 tk, .int .u64 tn, .string ts, .slice tka tks.length tkc, .slice tla tl.length tlc] 33; have hput := p9put_any (PT.mk key dur red mid (VT.mk tk tn ts (.slice tka tks.length tkc) (.slice tla tl.length tlc) tks tl)) P _ (hR.pure hB1) (hT.pure hB1); obtain ⟨px, hpx⟩ : ∃ px, (PT.mk key dur red mid (VT.mk tk tn ts (.slice tka tks.length tkc) (.slice tla tl.length tlc) tks tl)).p = px := ⟨_, rfl⟩
  obtain ⟨cx, hcx⟩ : ∃ cx, px.chk = cx := ⟨_, rfl⟩
  obtain ⟨tx, htx⟩ : ∃ tx, (if cx = 0 then px.text else (⟨#[]⟩ : ByteArray)) = tx := ⟨_, rfl⟩
  rw [hpx, hcx, htx, PT.arg_mk] at hput; rw [hpx, PT.arg_mk]; have hputh := Lib.hid hput; have a0 := A1.at 0 rfl; have a1 := A1.at 1 rfl; have a2 := A1.at 2 rfl; have a3 := A1.at 3 rfl; have a4 := A1.at 4 rfl; have a5 := A1.at 5 rfl; have a6 := A1.at 6 rfl; have a7 := A1.at 7 rfl; have a8 := A1.at 8 rfl; clear hput hpx; by_cases h0 : cx = 0
  · subst h0; rw [if_pos rfl] at htx; obtain ⟨b, hb⟩ : ∃ b, decide (px.bytes.length ≤ 8192) = b := ⟨_, rfl⟩
    have hsm := Lib.hid (show px.smallB = b by unfold Pr.smallB; rw [hcx, hb]; rfl)
    have hz : decide ((tx.size : Int) ≤ 8192) = b := by
      rw [← hb, ← htx]; have e : px.text.size = px.bytes.length := rfl; rw [e]; by_cases h : px.bytes.length ≤ 8192
      · rw [decide_eq_true h]; exact decide_eq_true (by omega)
      · rw [decide_eq_false h]; exact decide_eq_false (by omega)
    have hz2 : decide (tx.size ≤ 8192) = b := by
      rw [← hz]; by_cases h : tx.size ≤ 8192
      · rw [decide_eq_true h]; exact (decide_eq_true (by omega)).symm
      · rw [decide_eq_false h]; exact (decide_eq_false (by omega)).symm
    clear htx hb hcx; go_enter Tryz.func96, Tryz.ntmps96; cases b
    focus
      have hz3 : ¬ tx.size ≤ 8192 := of_decide_eq_false hz2; have hz4 : ¬ (tx.size : Int) ≤ 8192 := by omega
    rotate_left 1
    focus
      have hz3 : tx.size ≤ 8192 := of_decide_eq_true hz2; have hz4 : (tx.size : Int) ≤ 8192 := by omega
    rotate_left 1
    all_goals
      go_wp2_with (go_at_call 82; refine (hputh.out).mono ?_; rintro e w2 ⟨rfl, hB2⟩; have hB12 := hB1.trans (hB2.mono hB1.size)); go_ret; exact ⟨by rw [hsm.out]; rfl, hB12⟩
  · have h1 : (cx == 0) = false := beq_eq_false_iff_ne.2 h0; have hsm := Lib.hid (show px.smallB = false by unfold Pr.smallB; rw [decide_eq_false (by rw [hcx]; exact h0)]; rfl); clear htx hcx h0; go_enter Tryz.func96, Tryz.ntmps96; go_wp2_with (go_at_call 82; refine (hputh.out).mono ?_; rintro e w2 ⟨rfl, hB2⟩; have hB12 := hB1.trans (hB2.mono hB1.size)); go_ret; exact ⟨by rw [hsm.out]; rfl, hB12⟩
set_option maxRecDepth 100000 in
set_option maxHeartbeats 6400000 in
theorem mayput_any (t : PtT) (num : Bool) (P : Nat → Prop) (w : World) (hR : Rd P w t.pr.app) (hT : Tb w) : Calls Tryz.prog 65 #[t.arg, .bool num] w fun e w' => e = .returned (.bool (Pt.okB num t.p)) ∧ Below w.heap.size w w' := by
  obtain ⟨q, id, ⟨key, dur, red, mid, uv⟩, body⟩ := t; have hR : Rd _ _ uv := hR; obtain ⟨uk, un, us, uka, ukc, ula, ulc, uks, ul, rfl, -⟩ := hR.open; rw [PtT.arg_mk]; have hB1 := (Below.refl w.heap.size w).alloc (Nat.le_refl _) (.cells #[.string q, .int .u64 id, .string key, .bool dur, .bool red, .string mid, .int .u8 uk, .int .u64 un, .string us, .slice uka uks.length ukc, .slice ula ul.length ulc, .string body] 35); have A1 := Blk.new w [.string q, .int .u64 id, .string key, .bool dur, .bool red, .string mid, .int .u8 uk, .int .u64 un, .string us, .slice uka uks.length ukc, .slice ula ul.length ulc, .string body] 35; have R1 := hR.pure hB1; obtain ⟨sb, hsb⟩ : ∃ b, (PT.mk key dur red mid (VT.mk uk un us (.slice uka uks.length ukc) (.slice ula ul.length ulc) uks ul)).p.smallB = b := ⟨_, rfl⟩
  have hsmall := fun (u : World) (R : Rd P u (VT.mk uk un us (.slice uka uks.length ukc) (.slice ula ul.length ulc) uks ul)) (hu : Tb u) => esmall_any (PT.mk key dur red mid (VT.mk uk un us (.slice uka uks.length ukc) (.slice ula ul.length ulc) uks ul)) P u R hu
  simp only [hsb, PT.arg_mk] at hsmall; have hsmh := Lib.hid hsmall; obtain ⟨qb, hqb⟩ : ∃ b, qn q = b := ⟨_, rfl⟩
  obtain ⟨ib, hib⟩ : ∃ b, idOk id = b := ⟨_, rfl⟩
  obtain ⟨zb, hzb⟩ : ∃ b, decide (id = 0) = b := ⟨_, rfl⟩
  obtain ⟨bb, hbb⟩ : ∃ b, decide (body.size ≤ 4096) = b := ⟨_, rfl⟩
  have hok := Lib.hid (show Pt.okB num (PtT.mk q id (PT.mk key dur red mid (VT.mk uk un us (.slice uka uks.length ukc) (.slice ula ul.length ulc) uks ul)) body).p = (qb && (ib == num) && (num || zb) && bb && sb) by rw [← hqb, ← hib, ← hzb, ← hbb, ← hsb]; rfl); have hqbh := Lib.hid hqb; have hibh := Lib.hid hib; have z1 : (id == 0) = zb := by rw [← hzb]; rfl
  have z2 : decide ((body.size : Int) ≤ 4096) = bb := by
    rw [← hbb]; by_cases h : body.size ≤ 4096
    · rw [decide_eq_true h]; exact decide_eq_true (by omega)
    · rw [decide_eq_false h]; exact decide_eq_false (by omega)
  have z3 := hbb; have z4 := hzb; clear hsmall hsb hqb hib hzb hbb; have a0 := A1.at 0 rfl; have a1 := A1.at 1 rfl; have a2 := A1.at 2 rfl; have a3 := A1.at 3 rfl; have a4 := A1.at 4 rfl; have a5 := A1.at 5 rfl; have a6 := A1.at 6 rfl; have a7 := A1.at 7 rfl; have a8 := A1.at 8 rfl; have a9 := A1.at 9 rfl; have a10 := A1.at 10 rfl; have a11 := A1.at 11 rfl; cases qb
  · clear z1 z2 z3 z4
    cases ib <;> cases num <;> cases zb <;> cases bb <;> (
      go_enter Tryz.func65, Tryz.ntmps65; go_wp2_with (first | (go_at_call 49; refine (qname_any _ q).mono ?_; rintro e w2 ⟨he, hB2⟩; rw [hqbh.out] at he; subst he; have A2 := A1.pure hB2; have R2 := R1.pure hB2; have hT2 := hB1.trans (hB2.mono hB1.size); have b0 := A2.at 0 rfl; have b1 := A2.at 1 rfl; have b2 := A2.at 2 rfl; have b3 := A2.at 3 rfl; have b4 := A2.at 4 rfl; have b5 := A2.at 5 rfl; have b6 := A2.at 6 rfl; have b7 := A2.at 7 rfl; have b8 := A2.at 8 rfl; have b9 := A2.at 9 rfl; have b10 := A2.at 10 rfl; have b11 := A2.at 11 rfl) | (go_at_call 50; (with_reducible refine (eid_any _ _).mono ?_); rintro e w3 ⟨he, rfl⟩; rw [hibh.out] at he; subst he)); go_ret
      exact ⟨by rw [hok.out]; cases sb <;> rfl, hT2⟩)
  cases num
  · cases ib
    · cases zb
      · have y3 : ¬ id = 0 := of_decide_eq_false z4
        cases bb <;> (
          go_enter Tryz.func65, Tryz.ntmps65; go_wp2_with (first | (go_at_call 49; refine (qname_any _ q).mono ?_; rintro e w2 ⟨he, hB2⟩; rw [hqbh.out] at he; subst he; have A2 := A1.pure hB2; have R2 := R1.pure hB2; have hT2 := hB1.trans (hB2.mono hB1.size); have b0 := A2.at 0 rfl; have b1 := A2.at 1 rfl; have b2 := A2.at 2 rfl; have b3 := A2.at 3 rfl; have b4 := A2.at 4 rfl; have b5 := A2.at 5 rfl; have b6 := A2.at 6 rfl; have b7 := A2.at 7 rfl; have b8 := A2.at 8 rfl; have b9 := A2.at 9 rfl; have b10 := A2.at 10 rfl; have b11 := A2.at 11 rfl) | (go_at_call 50; (with_reducible refine (eid_any _ _).mono ?_); rintro e w3 ⟨he, rfl⟩; rw [hibh.out] at he; subst he)); go_ret
          exact ⟨by rw [hok.out]; cases sb <;> rfl, hT2⟩)
      · obtain rfl : id = 0 := of_decide_eq_true z4; cases bb
        · have y1 : ¬ body.size ≤ 4096 := of_decide_eq_false z3; have y2 : ¬ (body.size : Int) ≤ 4096 := by omega
          go_enter Tryz.func65, Tryz.ntmps65; go_wp2_with (first | (go_at_call 49; refine (qname_any _ q).mono ?_; rintro e w2 ⟨he, hB2⟩; rw [hqbh.out] at he; subst he; have A2 := A1.pure hB2; have R2 := R1.pure hB2; have hT2 := hB1.trans (hB2.mono hB1.size); have b0 := A2.at 0 rfl; have b1 := A2.at 1 rfl; have b2 := A2.at 2 rfl; have b3 := A2.at 3 rfl; have b4 := A2.at 4 rfl; have b5 := A2.at 5 rfl; have b6 := A2.at 6 rfl; have b7 := A2.at 7 rfl; have b8 := A2.at 8 rfl; have b9 := A2.at 9 rfl; have b10 := A2.at 10 rfl; have b11 := A2.at 11 rfl) | (go_at_call 50; (with_reducible refine (eid_any _ _).mono ?_); rintro e w3 ⟨he, rfl⟩; rw [hibh.out] at he; subst he)); go_ret; exact ⟨by rw [hok.out]; cases sb <;> rfl, hT2⟩
        · have y1 : body.size ≤ 4096 := of_decide_eq_true z3; have y2 : (body.size : Int) ≤ 4096 := by omega
          go_enter Tryz.func65, Tryz.ntmps65; go_wp2_with (first | (go_at_call 49; refine (qname_any _ q).mono ?_; rintro e w2 ⟨he, hB2⟩; rw [hqbh.out] at he; subst he; have A2 := A1.pure hB2; have R2 := R1.pure hB2; have hT2 := hB1.trans (hB2.mono hB1.size); have b0 := A2.at 0 rfl; have b1 := A2.at 1 rfl; have b2 := A2.at 2 rfl; have b3 := A2.at 3 rfl; have b4 := A2.at 4 rfl; have b5 := A2.at 5 rfl; have b6 := A2.at 6 rfl; have b7 := A2.at 7 rfl; have b8 := A2.at 8 rfl; have b9 := A2.at 9 rfl; have b10 := A2.at 10 rfl; have b11 := A2.at 11 rfl) | (go_at_call 50; (with_reducible refine (eid_any _ _).mono ?_); rintro e w3 ⟨he, rfl⟩; rw [hibh.out] at he; subst he) | (go_at_call 96; refine (hsmh.out _ R2 (hT.pure hT2)).mono ?_; rintro e w4 ⟨rfl, hB4⟩; have hT4 := hT2.trans (hB4.mono hT2.size))); go_ret; exact ⟨by rw [hok.out]; cases sb <;> rfl, hT4⟩
    · clear z4
      cases zb <;> cases bb <;> (
        go_enter Tryz.func65, Tryz.ntmps65; go_wp2_with (first | (go_at_call 49; refine (qname_any _ q).mono ?_; rintro e w2 ⟨he, hB2⟩; rw [hqbh.out] at he; subst he; have A2 := A1.pure hB2; have R2 := R1.pure hB2; have hT2 := hB1.trans (hB2.mono hB1.size); have b0 := A2.at 0 rfl; have b1 := A2.at 1 rfl; have b2 := A2.at 2 rfl; have b3 := A2.at 3 rfl; have b4 := A2.at 4 rfl; have b5 := A2.at 5 rfl; have b6 := A2.at 6 rfl; have b7 := A2.at 7 rfl; have b8 := A2.at 8 rfl; have b9 := A2.at 9 rfl; have b10 := A2.at 10 rfl; have b11 := A2.at 11 rfl) | (go_at_call 50; (with_reducible refine (eid_any _ _).mono ?_); rintro e w3 ⟨he, rfl⟩; rw [hibh.out] at he; subst he)); go_ret
        exact ⟨by rw [hok.out]; cases sb <;> rfl, hT2⟩)
  · cases ib
    · clear z4
      cases zb <;> cases bb <;> (
        go_enter Tryz.func65, Tryz.ntmps65; go_wp2_with (first | (go_at_call 49; refine (qname_any _ q).mono ?_; rintro e w2 ⟨he, hB2⟩; rw [hqbh.out] at he; subst he; have A2 := A1.pure hB2; have R2 := R1.pure hB2; have hT2 := hB1.trans (hB2.mono hB1.size); have b0 := A2.at 0 rfl; have b1 := A2.at 1 rfl; have b2 := A2.at 2 rfl; have b3 := A2.at 3 rfl; have b4 := A2.at 4 rfl; have b5 := A2.at 5 rfl; have b6 := A2.at 6 rfl; have b7 := A2.at 7 rfl; have b8 := A2.at 8 rfl; have b9 := A2.at 9 rfl; have b10 := A2.at 10 rfl; have b11 := A2.at 11 rfl) | (go_at_call 50; (with_reducible refine (eid_any _ _).mono ?_); rintro e w3 ⟨he, rfl⟩; rw [hibh.out] at he; subst he)); go_ret
        exact ⟨by rw [hok.out]; cases sb <;> rfl, hT2⟩)
    · cases zb
      focus
        have y3 : ¬ id = 0 := of_decide_eq_false z4
      rotate_left 1
      focus
        obtain rfl : id = 0 := of_decide_eq_true z4
      rotate_left 1
      all_goals
        cases bb
        · have y1 : ¬ body.size ≤ 4096 := of_decide_eq_false z3; have y2 : ¬ (body.size : Int) ≤ 4096 := by omega
          go_enter Tryz.func65, Tryz.ntmps65; go_wp2_with (first | (go_at_call 49; refine (qname_any _ q).mono ?_; rintro e w2 ⟨he, hB2⟩; rw [hqbh.out] at he; subst he; have A2 := A1.pure hB2; have R2 := R1.pure hB2; have hT2 := hB1.trans (hB2.mono hB1.size); have b0 := A2.at 0 rfl; have b1 := A2.at 1 rfl; have b2 := A2.at 2 rfl; have b3 := A2.at 3 rfl; have b4 := A2.at 4 rfl; have b5 := A2.at 5 rfl; have b6 := A2.at 6 rfl; have b7 := A2.at 7 rfl; have b8 := A2.at 8 rfl; have b9 := A2.at 9 rfl; have b10 := A2.at 10 rfl; have b11 := A2.at 11 rfl) | (go_at_call 50; (with_reducible refine (eid_any _ _).mono ?_); rintro e w3 ⟨he, rfl⟩; rw [hibh.out] at he; subst he)); go_ret; exact ⟨by rw [hok.out]; cases sb <;> rfl, hT2⟩
        · have y1 : body.size ≤ 4096 := of_decide_eq_true z3; have y2 : (body.size : Int) ≤ 4096 := by omega
          go_enter Tryz.func65, Tryz.ntmps65; go_wp2_with (first | (go_at_call 49; refine (qname_any _ q).mono ?_; rintro e w2 ⟨he, hB2⟩; rw [hqbh.out] at he; subst he; have A2 := A1.pure hB2; have R2 := R1.pure hB2; have hT2 := hB1.trans (hB2.mono hB1.size); have b0 := A2.at 0 rfl; have b1 := A2.at 1 rfl; have b2 := A2.at 2 rfl; have b3 := A2.at 3 rfl; have b4 := A2.at 4 rfl; have b5 := A2.at 5 rfl; have b6 := A2.at 6 rfl; have b7 := A2.at 7 rfl; have b8 := A2.at 8 rfl; have b9 := A2.at 9 rfl; have b10 := A2.at 10 rfl; have b11 := A2.at 11 rfl) | (go_at_call 50; (with_reducible refine (eid_any _ _).mono ?_); rintro e w3 ⟨he, rfl⟩; rw [hibh.out] at he; subst he) | (go_at_call 96; refine (hsmh.out _ R2 (hT.pure hT2)).mono ?_; rintro e w4 ⟨rfl, hB4⟩; have hT4 := hT2.trans (hB4.mono hT2.size))); go_ret; exact ⟨by rw [hok.out]; cases sb <;> rfl, hT4⟩
set_option maxRecDepth 100000 in
set_option maxHeartbeats 1600000 in
theorem work1_any (t : PtT) (kind : Int) (eb : Nat) (P : Nat → Prop) (w : World) (hE : w.cell? ⟨eb, 0, none⟩ = some (.int .u8 kind)) (hel : eb < w.heap.size) (hR : Rd P w t.pr.app) (hT : Tb w) :
    Calls Tryz.prog 64 #[t.arg, .pointer (some ⟨eb, 0, none⟩)] w fun e w' => e = .returned (.bool (!Pt.okB (kind == 3) t.p)) ∧ Below w.heap.size w w' := by
  obtain ⟨q, id, ⟨key, dur, red, mid, uv⟩, body⟩ := t; have hR : Rd _ _ uv := hR; obtain ⟨uk, un, us, uka, ukc, ula, ulc, uks, ul, rfl, -⟩ := hR.open; rw [PtT.arg_mk]; have hB1 := (Below.refl w.heap.size w).alloc (Nat.le_refl _) (.cells #[.string q, .int .u64 id, .string key, .bool dur, .bool red, .string mid, .int .u8 uk, .int .u64 un, .string us, .slice uka uks.length ukc, .slice ula ul.length ulc, .string body] 35); have A1 := Blk.new w [.string q, .int .u64 id, .string key, .bool dur, .bool red, .string mid, .int .u8 uk, .int .u64 un, .string us, .slice uka uks.length ukc, .slice ula ul.length ulc, .string body] 35; have R1 := hR.pure hB1; have e1 := (hB1.cell (p := ⟨eb, 0, none⟩) hel).trans hE; obtain ⟨nb, hnb⟩ : ∃ b, (kind == 3) = b := ⟨_, rfl⟩
  obtain ⟨rb, hrb⟩ : ∃ b, Pt.okB nb (PtT.mk q id (PT.mk key dur red mid (VT.mk uk un us (.slice uka uks.length ukc) (.slice ula ul.length ulc) uks ul)) body).p = b := ⟨_, rfl⟩
  have hm := mayput_any (PtT.mk q id (PT.mk key dur red mid (VT.mk uk un us (.slice uka uks.length ukc) (.slice ula ul.length ulc) uks ul)) body) nb P _ R1 (hT.pure hB1); rw [PtT.arg_mk, hrb] at hm; rw [hnb, hrb]; have hmh := Lib.hid hm; clear hm hrb; have a0 := A1.at 0 rfl; have a1 := A1.at 1 rfl; have a2 := A1.at 2 rfl; have a3 := A1.at 3 rfl; have a4 := A1.at 4 rfl; have a5 := A1.at 5 rfl; have a6 := A1.at 6 rfl; have a7 := A1.at 7 rfl; have a8 := A1.at 8 rfl; have a9 := A1.at 9 rfl; have a10 := A1.at 10 rfl; have a11 := A1.at 11 rfl; go_enter Tryz.func64, Tryz.ntmps64; go_wp2_with (go_at_call 65; refine (hmh.out).mono ?_; rintro e w2 ⟨rfl, hB2⟩; have hT2 := hB1.trans (hB2.mono hB1.size)); go_ret; exact ⟨rfl, hT2⟩
set_option maxRecDepth 100000 in
set_option maxHeartbeats 1600000 in
theorem work2_any (w : World) (q : ByteArray) (id : Int) : Calls Tryz.prog 67 #[.agg #[.string q, .int .u64 id]] w fun e w' => e = .returned (.bool (!Rf.okB ⟨q, id⟩)) ∧ Below w.heap.size w w' := by
  have hB1 := (Below.refl w.heap.size w).alloc (Nat.le_refl _) (.cells #[.string q, .int .u64 id] 37); have A1 := Blk.new w [.string q, .int .u64 id] 37; have a0 := A1.at 0 rfl; have a1 := A1.at 1 rfl; obtain ⟨qb, hqb⟩ : ∃ b, qn q = b := ⟨_, rfl⟩
  obtain ⟨ib, hib⟩ : ∃ b, idOk id = b := ⟨_, rfl⟩
  rw [show Rf.okB ⟨q, id⟩ = (qb && ib) by rw [← hqb, ← hib]; rfl]; have hqbh := Lib.hid hqb; have hibh := Lib.hid hib; clear hqb hib; cases qb
  all_goals
    go_enter Tryz.func67, Tryz.ntmps67; go_wp2_with (first | (go_at_call 49; refine (qname_any _ q).mono ?_; rintro e w2 ⟨he, hB2⟩; rw [hqbh.out] at he; subst he; have A2 := A1.pure hB2; have hT2 := hB1.trans (hB2.mono hB1.size); have b1 := A2.at 1 rfl) | (go_at_call 50; (with_reducible refine (eid_any _ _).mono ?_); rintro e w3 ⟨he, rfl⟩; rw [hibh.out] at he; subst he)); go_ret; exact ⟨by cases ib <;> rfl, hT2⟩
theorem any_idx_cput {L : List PtT} {p : PtT → Bool} (k : Nat) (h1 : ∀ j, (h : j < L.length) → j < k → p L[j] = false) (h2 : (h : k < L.length) → p L[k] = true) : L.any p = decide (k < L.length) := by
  by_cases hk : k < L.length
  · rw [decide_eq_true hk]; exact List.any_eq_true.2 ⟨_, List.getElem_mem hk, h2 hk⟩
  · rw [decide_eq_false hk]; refine List.any_eq_false.2 (fun x hx => ?_); obtain ⟨j, hj, rfl⟩ := List.getElem_of_mem hx; simp [h1 j hj (by omega)]
set_option maxRecDepth 100000 in
set_option maxHeartbeats 1600000 in
theorem cput_idx (w : World) (la : Option Addr) (lc : Nat) (L : List PtT) (P : Nat → Prop) (p : PtT → Bool) (eb : Nat) (hL : Slc ptEnc 12 w (.slice la L.length lc) L) (hml : (L.length : Int) ≤ 9223372036854775807) (hsubh : Hid (∀ x ∈ L, Rd P w x.pr.app)) (hcall : Hid (∀ x ∈ L, ∀ u : World, Below w.heap.size w u → Calls Tryz.prog 64 #[x.arg, .pointer (some ⟨eb, 0, none⟩)] u fun e u' => e = .returned (.bool (p x)) ∧ Below u.heap.size u u')) :
    Calls Tryz.prog 95 #[.slice la L.length lc, .func (.func 64) #[] #[.pointer (some ⟨eb, 0, none⟩)]] w fun e w' => (∃ r : Int, e = .returned (.int .i64 r) ∧ decide (0 ≤ r) = L.any p) ∧ Below w.heap.size w w' := by
  go_enter Tryz.func95, Tryz.ntmps95; go_wp2; go_loopw [8] (fun s8 wr => ∃ k : Nat, k ≤ L.length ∧ s8 = .int .i64 k ∧ Hid (∀ j, (h : j < L.length) → j < k → p L[j] = false) ∧ Below w.heap.size w wr) (fun s8 _ => L.length - (intOf s8).toNat)
  case atStart => exact ⟨0, by omega, rfl, Lib.hid (fun j h h0 => absurd h0 (by omega)), Below.refl _ _⟩
  case round =>
    obtain ⟨k, hk, rfl, hno, hB⟩ := hrel; by_cases hlt : k < L.length
    · have hLk := hL.pure hB; obtain ⟨g, off, rfl⟩ := hLk.addrB hlt; have hRk := (hsubh.out L[k] (List.getElem_mem hlt)).pure hB; obtain ⟨q, id, key, dur, red, mid, uk, un, us, uka, ukc, ula, ulc, uks, ul, body, hx, q0, q1, q2, q3, q4, q5, q6, q7, q8, q9, q10, q11⟩ := pt_elem hLk hlt hRk; have hi := hcall.out L[k] (List.getElem_mem hlt) wr hB; obtain ⟨b, hb⟩ : ∃ b, p L[k] = b := ⟨_, rfl⟩
      rw [hb, hx, PtT.arg_mk] at hi; have hih := Lib.hid hi; have hbh := Lib.hid hb; clear hi hb hx; have h1 : (k : Int) < (L.length : Int) := by omega
      cases b
      · go_wp2_with (go_at_call 64; (with_reducible refine hih.out.mono ?_); rintro e w1 ⟨rfl, hB1⟩; have hB2 := hB.trans (hB1.mono hB.size)); go_roundw
        case rel => exact ⟨k + 1, by omega, by go_num, Lib.hid (fun j h h0 => by
          rcases Nat.lt_or_ge j k with h' | h'
          · exact hno.out j h h'
          · obtain rfl : j = k := by omega
            exact hbh.out), hB2⟩
        case measure => simp [intOf]; omega
      · go_wp2_with (go_at_call 64; (with_reducible refine hih.out.mono ?_); rintro e w1 ⟨rfl, hB1⟩; have hB2 := hB.trans (hB1.mono hB.size)); go_ret; exact ⟨⟨k, rfl, by rw [any_idx_cput k hno.out (fun _ => hbh.out), decide_eq_true hlt]; simp⟩, hB2⟩
    · obtain rfl : k = L.length := by omega
      go_wp2; go_ret; exact ⟨⟨-1, rfl, by rw [any_idx_cput L.length hno.out (fun h => absurd h hlt), decide_eq_false hlt]; decide⟩, hB⟩
theorem cput_any (w : World) (la : Option Addr) (lc : Nat) (L : List PtT) (P : Nat → Prop) (p : PtT → Bool) (eb : Nat) (hL : Slc ptEnc 12 w (.slice la L.length lc) L) (hml : (L.length : Int) ≤ 9223372036854775807) (hsubh : Hid (∀ x ∈ L, Rd P w x.pr.app)) (hcall : Hid (∀ x ∈ L, ∀ u : World, Below w.heap.size w u → Calls Tryz.prog 64 #[x.arg, .pointer (some ⟨eb, 0, none⟩)] u fun e u' => e = .returned (.bool (p x)) ∧ Below u.heap.size u u')) :
    Calls Tryz.prog 63 #[.slice la L.length lc, .func (.func 64) #[] #[.pointer (some ⟨eb, 0, none⟩)]] w fun e w' => e = .returned (.bool (L.any p)) ∧ Below w.heap.size w w' := by
  go_enter Tryz.func63, Tryz.ntmps63; go_wp2_with (go_at_call 95; (with_reducible refine (cput_idx w la lc L P p eb hL hml hsubh hcall).mono ?_); rintro e w1 ⟨⟨r, rfl, hr⟩, hB1⟩); go_ret; exact ⟨by rw [← hr]; rfl, hB1⟩
theorem any_idx_cref {L : List Rf} {p : Rf → Bool} (k : Nat) (h1 : ∀ j, (h : j < L.length) → j < k → p L[j] = false) (h2 : (h : k < L.length) → p L[k] = true) : L.any p = decide (k < L.length) := by
  by_cases hk : k < L.length
  · rw [decide_eq_true hk]; exact List.any_eq_true.2 ⟨_, List.getElem_mem hk, h2 hk⟩
  · rw [decide_eq_false hk]; refine List.any_eq_false.2 (fun x hx => ?_); obtain ⟨j, hj, rfl⟩ := List.getElem_of_mem hx; simp [h1 j hj (by omega)]
set_option maxRecDepth 100000 in
set_option maxHeartbeats 1600000 in
theorem cref_idx (w : World) (la : Option Addr) (lc : Nat) (L : List Rf) (p : Rf → Bool) (hL : Slc rfEnc 2 w (.slice la L.length lc) L) (hml : (L.length : Int) ≤ 9223372036854775807) (hcall : Hid (∀ x ∈ L, ∀ u : World, Below w.heap.size w u → Calls Tryz.prog 67 #[.agg #[.string x.q, .int .u64 x.id]] u fun e u' => e = .returned (.bool (p x)) ∧ Below u.heap.size u u')) :
    Calls Tryz.prog 97 #[.slice la L.length lc, .func (.func 67) #[] #[]] w fun e w' => (∃ r : Int, e = .returned (.int .i64 r) ∧ decide (0 ≤ r) = L.any p) ∧ Below w.heap.size w w' := by
  go_enter Tryz.func97, Tryz.ntmps97; go_wp2; go_loopw [8] (fun s8 wr => ∃ k : Nat, k ≤ L.length ∧ s8 = .int .i64 k ∧ Hid (∀ j, (h : j < L.length) → j < k → p L[j] = false) ∧ Below w.heap.size w wr) (fun s8 _ => L.length - (intOf s8).toNat)
  case atStart => exact ⟨0, by omega, rfl, Lib.hid (fun j h h0 => absurd h0 (by omega)), Below.refl _ _⟩
  case round =>
    obtain ⟨k, hk, rfl, hno, hB⟩ := hrel; by_cases hlt : k < L.length
    · have hLk := hL.pure hB; obtain ⟨g, off, rfl⟩ := hLk.addrB hlt; obtain ⟨xq, xi, hx, q0, q1⟩ := rf_elem hLk hlt; have hi := hcall.out L[k] (List.getElem_mem hlt) wr hB; obtain ⟨b, hb⟩ : ∃ b, p L[k] = b := ⟨_, rfl⟩
      rw [hb, hx] at hi; have hih := Lib.hid hi; have hbh := Lib.hid hb; clear hi hb hx; have h1 : (k : Int) < (L.length : Int) := by omega
      cases b
      · go_wp2_with (go_at_call 67; (with_reducible refine hih.out.mono ?_); rintro e w1 ⟨rfl, hB1⟩; have hB2 := hB.trans (hB1.mono hB.size)); go_roundw
        case rel => exact ⟨k + 1, by omega, by go_num, Lib.hid (fun j h h0 => by
          rcases Nat.lt_or_ge j k with h' | h'
          · exact hno.out j h h'
          · obtain rfl : j = k := by omega
            exact hbh.out), hB2⟩
        case measure => simp [intOf]; omega
      · go_wp2_with (go_at_call 67; (with_reducible refine hih.out.mono ?_); rintro e w1 ⟨rfl, hB1⟩; have hB2 := hB.trans (hB1.mono hB.size)); go_ret; exact ⟨⟨k, rfl, by rw [any_idx_cref k hno.out (fun _ => hbh.out), decide_eq_true hlt]; simp⟩, hB2⟩
    · obtain rfl : k = L.length := by omega
      go_wp2; go_ret; exact ⟨⟨-1, rfl, by rw [any_idx_cref L.length hno.out (fun h => absurd h hlt), decide_eq_false hlt]; decide⟩, hB⟩
theorem cref_any (w : World) (la : Option Addr) (lc : Nat) (L : List Rf) (p : Rf → Bool) (hL : Slc rfEnc 2 w (.slice la L.length lc) L) (hml : (L.length : Int) ≤ 9223372036854775807) (hcall : Hid (∀ x ∈ L, ∀ u : World, Below w.heap.size w u → Calls Tryz.prog 67 #[.agg #[.string x.q, .int .u64 x.id]] u fun e u' => e = .returned (.bool (p x)) ∧ Below u.heap.size u u')) :
    Calls Tryz.prog 66 #[.slice la L.length lc, .func (.func 67) #[] #[]] w fun e w' => e = .returned (.bool (L.any p)) ∧ Below w.heap.size w w' := by
  go_enter Tryz.func66, Tryz.ntmps66; go_wp2_with (go_at_call 97; (with_reducible refine (cref_idx w la lc L p hL hml hcall).mono ?_); rintro e w1 ⟨⟨r, rfl, hr⟩, hB1⟩); go_ret; exact ⟨by rw [← hr]; rfl, hB1⟩
theorem any_not {α : Type} (L : List α) (f : α → Bool) : L.any (fun x => !f x) = !L.all f := by induction L with | nil => rfl | cons x L ih => rw [List.any_cons, List.all_cons, ih, Bool.not_and]
theorem all_map {α β : Type} (L : List α) (g : α → β) (f : β → Bool) : (L.map g).all f = L.all (fun x => f (g x)) := by induction L with | nil => rfl | cons x L ih => rw [List.map_cons, List.all_cons, List.all_cons, ih]
/-- May the puts and takes be? -/
def EnT.wk (t : EnT) : Bool := decide (t.puts.length ≤ 100) && decide (t.takes.length ≤ 100) && t.puts.all (fun p => Pt.okB (t.kind == 3) p.p) && t.takes.all Rf.okB
set_option maxRecDepth 100000 in
set_option maxHeartbeats 6400000 in
theorem work_any (t : EnT) (P : Nat → Prop) (w : World) (hR : EnRd P w t) (hT : Tb w) : Calls Tryz.prog 51 #[t.arg] w fun e w' => e = .returned (.bool t.wk) ∧ Below w.heap.size w w' := by
  obtain ⟨kind, name, n, xf, xg, xb, pa, pc, ta, tc, puts, takes, rfl, hpl, htl⟩ := hR.open; rw [EnT.arg_mk]; have hB1 := (Below.refl w.heap.size w).alloc (Nat.le_refl _) (.cells #[.int .u8 kind, .string name, .int .u64 n, .int .u32 xf, .string xg, .string xb, .slice pa puts.length pc, .slice ta takes.length tc] 57); have A1 := Blk.new w [.int .u8 kind, .string name, .int .u64 n, .int .u32 xf, .string xg, .string xb, .slice pa puts.length pc, .slice ta takes.length tc] 57; have R1 := hR.pure hB1; have hwk := Lib.hid (show (EnT.mk kind name n (xf, xg, xb) (.slice pa puts.length pc) (.slice ta takes.length tc) puts takes).wk = (decide (puts.length ≤ 100) && decide (takes.length ≤ 100) && puts.all (fun p => Pt.okB (kind == 3) p.p) && takes.all Rf.okB) from rfl); have a0 := A1.at 0 rfl; have a1 := A1.at 1 rfl; have a2 := A1.at 2 rfl; have a3 := A1.at 3 rfl; have a4 := A1.at 4 rfl; have a5 := A1.at 5 rfl; have a6 := A1.at 6 rfl; have a7 := A1.at 7 rfl; by_cases h1 : puts.length ≤ 100
  rotate_left 1
  · have d1 : decide ((100 : Int) < (puts.length : Int)) = true := decide_eq_true (by omega); have d2 : (100 : Int) < (puts.length : Int) := by omega
    have hno := Lib.hid (show (EnT.mk kind name n (xf, xg, xb) (.slice pa puts.length pc) (.slice ta takes.length tc) puts takes).wk = false by rw [hwk.out, decide_eq_false h1]; simp); clear hpl htl h1; go_enter Tryz.func51, Tryz.ntmps51; go_wp2; go_ret; exact ⟨by rw [hno.out]; rfl, hB1⟩
  by_cases h2 : takes.length ≤ 100
  rotate_left 1
  · have d1 : decide ((100 : Int) < (puts.length : Int)) = false := decide_eq_false (by omega); have d2 : ¬ (100 : Int) < (puts.length : Int) := by omega
    have d3 : decide ((100 : Int) < (takes.length : Int)) = true := decide_eq_true (by omega); have d4 : (100 : Int) < (takes.length : Int) := by omega
    have hno := Lib.hid (show (EnT.mk kind name n (xf, xg, xb) (.slice pa puts.length pc) (.slice ta takes.length tc) puts takes).wk = false by rw [hwk.out, decide_eq_false h2]; simp); clear hpl htl h1 h2; go_enter Tryz.func51, Tryz.ntmps51; go_wp2; go_ret; exact ⟨by rw [hno.out]; rfl, hB1⟩
  have d1 : decide ((100 : Int) < (puts.length : Int)) = false := decide_eq_false (by omega); have d2 : ¬ (100 : Int) < (puts.length : Int) := by omega
  have d3 : decide ((100 : Int) < (takes.length : Int)) = false := decide_eq_false (by omega); have d4 : ¬ (100 : Int) < (takes.length : Int) := by omega
  have l1 : (puts.length : Int) ≤ 9223372036854775807 := by omega
  have l2 : (takes.length : Int) ≤ 9223372036854775807 := by omega
  have hE0 := (A1.at 0 rfl : (w.alloc (.cells #[.int .u8 kind, .string name, .int .u64 n, .int .u32 xf, .string xg, .string xb, .slice pa puts.length pc, .slice ta takes.length tc] 57)).cell? ⟨w.heap.size, 0, none⟩ = some (.int .u8 kind)); obtain ⟨pb, hpb⟩ : ∃ b, puts.all (fun p => Pt.okB (kind == 3) p.p) = b := ⟨_, rfl⟩
  obtain ⟨tb, htb⟩ : ∃ b, takes.all Rf.okB = b := ⟨_, rfl⟩
  have hres := Lib.hid (show (EnT.mk kind name n (xf, xg, xb) (.slice pa puts.length pc) (.slice ta takes.length tc) puts takes).wk = (pb && tb) by rw [hwk.out, decide_eq_true h1, decide_eq_true h2, hpb, htb]; rfl); have c1 := cput_any (w.alloc (.cells #[.int .u8 kind, .string name, .int .u64 n, .int .u32 xf, .string xg, .string xb, .slice pa puts.length pc, .slice ta takes.length tc] 57)) pa pc puts P (fun x => !Pt.okB (kind == 3) x.p) w.heap.size R1.p l1 (Lib.hid R1.r) (Lib.hid (fun x hx u hu => work1_any x kind w.heap.size P u ((hu.cell (p := ⟨w.heap.size, 0, none⟩) A1.lt).trans hE0) (Nat.lt_of_lt_of_le A1.lt hu.size) ((R1.r x hx).pure hu) (hT.pure (hB1.trans (hu.mono hB1.size))))); rw [any_not, hpb] at c1; have c2 := fun (u : World) (hS : Slc rfEnc 2 u (.slice ta takes.length tc) takes) => cref_any u ta tc takes (fun x => !Rf.okB x) hS l2 (Lib.hid (fun x hx v hv => work2_any v x.q x.id))
  simp only [any_not, htb] at c2; have c1h := Lib.hid c1; have c2h := Lib.hid c2; clear c1 c2 hpb htb hE0 hpl htl h1 h2 l1 l2; cases pb
  · go_enter Tryz.func51, Tryz.ntmps51; go_wp2_with (go_at_call 63; refine (c1h.out).mono ?_; rintro e w2 ⟨rfl, hB2⟩; have hT2 := hB1.trans (hB2.mono hB1.size)); go_ret; exact ⟨by rw [hres.out]; rfl, hT2⟩
  · go_enter Tryz.func51, Tryz.ntmps51; go_wp2_with (first | (go_at_call 63; refine (c1h.out).mono ?_; rintro e w2 ⟨rfl, hB2⟩; have hT2 := hB1.trans (hB2.mono hB1.size); have A2 := A1.pure hB2; have S2 := R1.s.pure hB2; have b0 := A2.at 0 rfl; have b1 := A2.at 1 rfl; have b2 := A2.at 2 rfl; have b3 := A2.at 3 rfl; have b4 := A2.at 4 rfl; have b5 := A2.at 5 rfl; have b6 := A2.at 6 rfl; have b7 := A2.at 7 rfl) | (go_at_call 66; refine (c2h.out _ S2).mono ?_; rintro e w3 ⟨rfl, hB3⟩; have hT3 := hT2.trans (hB3.mono hT2.size))); go_ret; exact ⟨by rw [hres.out]; cases tb <;> rfl, hT3⟩
theorem bz (b : ByteArray) : (b == (⟨#[]⟩ : ByteArray)) = (b.size == 0) := by
  rw [beq_toListBytes]; by_cases h : b.size = 0
  · obtain rfl : b = ⟨#[]⟩ := size0 h; rw [beq_self_eq_true]; rfl
  · rw [beq_eq_false_iff_ne.2 h, beq_eq_false_iff_ne]; intro e; exact h (by rw [← toList_len, e, toList_len]; rfl)
theorem xz (xf : Int) (xg xb : ByteArray) : ((xf, xg, xb) != ((0 : Int), (⟨#[]⟩ : ByteArray), (⟨#[]⟩ : ByteArray))) = !(xf == 0 && xg.size == 0 && xb.size == 0) := by
  show (!(xf == 0 && (xg == ⟨#[]⟩ && xb == ⟨#[]⟩))) = _
  rw [bz, bz, Bool.and_assoc]
theorem ok_eq (kind : Int) (name : ByteArray) (n xf : Int) (xg xb : ByteArray) (pv tv : Value) (puts : List PtT) (takes : List Rf) :
    (EnT.mk kind name n (xf, xg, xb) pv tv puts takes).e.okB = (!(us kind == 0) && ((if uN kind then qn name else name.size == 0) && ((if uM kind then idOk n else n == 0) && ((if uX kind then Xn.okB (xf, xg, xb) else (xf == 0 && xg.size == 0 && xb.size == 0)) &&
      ((uW kind || (puts.isEmpty && takes.isEmpty)) && (EnT.mk kind name n (xf, xg, xb) pv tv puts takes).wk))))) := by
  have hm : (puts.map PtT.p).isEmpty = puts.isEmpty := by cases puts <;> rfl
  unfold EnT.wk EnT.e En.okB; simp only [List.length_map, all_map, hm, Bool.and_assoc]
set_option maxRecDepth 100000 in
set_option maxHeartbeats 12800000 in
theorem echeck_any (t : EnT) (P : Nat → Prop) (w : World) (hR : EnRd P w t) (hT : Tb w) : Calls Tryz.prog 23 #[t.arg] w fun e w' => e = .returned (.int .i64 t.e.chk) ∧ Below w.heap.size w w' := by
  obtain ⟨kind, name, n, xf, xg, xb, pa, pc, ta, tc, puts, takes, rfl, hpl, htl⟩ := hR.open; have hB1 := (Below.refl w.heap.size w).alloc (Nat.le_refl _) (.cells #[.int .u8 kind, .string name, .int .u64 n, .int .u32 xf, .string xg, .string xb, .slice pa puts.length pc, .slice ta takes.length tc] 57); have A1 := Blk.new w [.int .u8 kind, .string name, .int .u64 n, .int .u32 xf, .string xg, .string xb, .slice pa puts.length pc, .slice ta takes.length tc] 57; have R1 := hR.pure hB1; obtain ⟨wk, hwk⟩ : ∃ b, (EnT.mk kind name n (xf, xg, xb) (.slice pa puts.length pc) (.slice ta takes.length tc) puts takes).wk = b := ⟨_, rfl⟩
  have hw := fun (u : World) (R : EnRd P u (EnT.mk kind name n (xf, xg, xb) (.slice pa puts.length pc) (.slice ta takes.length tc) puts takes)) (hu : Tb u) => work_any (EnT.mk kind name n (xf, xg, xb) (.slice pa puts.length pc) (.slice ta takes.length tc) puts takes) P u R hu
  simp only [hwk, EnT.arg_mk] at hw; have hwh := Lib.hid hw; obtain ⟨c1, hc1⟩ : ∃ b, (if uN kind then qn name else name.size == 0) = b := ⟨_, rfl⟩
  obtain ⟨c2, hc2⟩ : ∃ b, (if uM kind then idOk n else n == 0) = b := ⟨_, rfl⟩
  obtain ⟨c3, hc3⟩ : ∃ b, (if uX kind then Xn.okB (xf, xg, xb) else (xf == 0 && xg.size == 0 && xb.size == 0)) = b := ⟨_, rfl⟩
  obtain ⟨c4, hc4⟩ : ∃ b, (uW kind || (puts.isEmpty && takes.isEmpty)) = b := ⟨_, rfl⟩
  obtain ⟨u, hu⟩ : ∃ u, us kind = u := ⟨_, rfl⟩
  have hok := ok_eq kind name n xf xg xb (.slice pa puts.length pc) (.slice ta takes.length tc) puts takes; rw [hwk, hc1, hc2, hc3, hc4, hu] at hok; obtain ⟨b1, b2, b4, b8⟩ := and_us u (by rw [← hu]; exact us_lt kind); have hN : (u % 2 == 1) = uN kind := by rw [← hu]; rfl
  have hM : (u / 2 % 2 == 1) = uM kind := by rw [← hu]; rfl
  have hX : (u / 4 % 2 == 1) = uX kind := by rw [← hu]; rfl
  have hW : (u / 8 % 2 == 1) = uW kind := by rw [← hu]; rfl
  rw [hN] at b1; rw [hM] at b2; rw [hX] at b4; rw [hW] at b8; obtain ⟨nb, hnb⟩ : ∃ b, uN kind = b := ⟨_, rfl⟩
  obtain ⟨mb, hmb⟩ : ∃ b, uM kind = b := ⟨_, rfl⟩
  obtain ⟨xB, hxb⟩ : ∃ b, uX kind = b := ⟨_, rfl⟩
  obtain ⟨wb, hwb⟩ : ∃ b, uW kind = b := ⟨_, rfl⟩
  rw [hnb] at hc1 b1; rw [hmb] at hc2 b2; rw [hxb] at hc3 b4; rw [hwb] at hc4 b8; have hus := uses_any (w.alloc (.cells #[.int .u8 kind, .string name, .int .u64 n, .int .u32 xf, .string xg, .string xb, .slice pa puts.length pc, .slice ta takes.length tc] 57)) kind; rw [hu] at hus; have hush := Lib.hid hus; obtain ⟨ok, hoke⟩ : ∃ b, (EnT.mk kind name n (xf, xg, xb) (.slice pa puts.length pc) (.slice ta takes.length tc) puts takes).e.okB = b := ⟨_, rfl⟩
  have hchk := Lib.hid (show (EnT.mk kind name n (xf, xg, xb) (.slice pa puts.length pc) (.slice ta takes.length tc) puts takes).e.chk = if ok then 0 else 130 by unfold En.chk; rw [hoke]); rw [hoke] at hok; have hokh := Lib.hid hok; have c1h := Lib.hid hc1; have c2h := Lib.hid hc2; have c3h := Lib.hid hc3; have c4h := Lib.hid hc4; have b1h := Lib.hid b1; have b2h := Lib.hid b2; have b4h := Lib.hid b4; have b8h := Lib.hid b8; rw [EnT.arg_mk]; clear hw hwk hc1 hc2 hc3 hc4 hu hok b1 b2 b4 b8 hN hM hX hW hnb hmb hxb hwb hus hoke hpl htl; have hAh := Lib.hid (fun (v : World) (h : Below (w.alloc (.cells #[.int .u8 kind, .string name, .int .u64 n, .int .u32 xf, .string xg, .string xb, .slice pa puts.length pc, .slice ta takes.length tc] 57)).heap.size (w.alloc (.cells #[.int .u8 kind, .string name, .int .u64 n, .int .u32 xf, .string xg, .string xb, .slice pa puts.length pc, .slice ta takes.length tc] 57)) v) => A1.pure h); have hRh := Lib.hid (fun (v : World) (h : Below (w.alloc (.cells #[.int .u8 kind, .string name, .int .u64 n, .int .u32 xf, .string xg, .string xb, .slice pa puts.length pc, .slice ta takes.length tc] 57)).heap.size (w.alloc (.cells #[.int .u8 kind, .string name, .int .u64 n, .int .u32 xf, .string xg, .string xb, .slice pa puts.length pc, .slice ta takes.length tc] 57)) v) => R1.pure h); have a0 := A1.at 0 rfl; have a1 := A1.at 1 rfl; have a2 := A1.at 2 rfl; have a3 := A1.at 3 rfl; have a4 := A1.at 4 rfl; have a5 := A1.at 5 rfl; have a6 := A1.at 6 rfl; have a7 := A1.at 7 rfl; go_enter Tryz.func23, Tryz.ntmps23; by_cases hu0 : u = 0
  · subst hu0; have hf := Lib.hid (show (EnT.mk kind name n (xf, xg, xb) (.slice pa puts.length pc) (.slice ta takes.length tc) puts takes).e.chk = 130 by rw [hchk.out, hokh.out]; rfl); go_wp2_with (go_at_call 48; refine (hush.out).mono ?_; rintro e w2 ⟨rfl, rfl⟩); go_ret; exact ⟨by rw [hf.out]; rfl, hB1⟩
  have z1 : ((u : Int) == 0) = false := beq_eq_false_iff_ne.2 (by omega); have z2 : ¬ (u : Int) = 0 := by omega
  have hok1 := Lib.hid (show ok = (c1 && (c2 && (c3 && (c4 && wk)))) by rw [hokh.out, beq_eq_false_iff_ne.2 hu0]; rfl); clear hu0; go_upto_region 3 with (go_at_call 48; (with_reducible refine (hush.out).mono ?_); rintro e w2 ⟨rfl, rfl⟩); have hb := Below.refl (w.alloc (.cells #[.int .u8 kind, .string name, .int .u64 n, .int .u32 xf, .string xg, .string xb, .slice pa puts.length pc, .slice ta takes.length tc] 57)).heap.size (w.alloc (.cells #[.int .u8 kind, .string name, .int .u64 n, .int .u32 xf, .string xg, .string xb, .slice pa puts.length pc, .slice ta takes.length tc] 57)); have hsz := Lib.hid (show w.heap.size ≤ (w.alloc (.cells #[.int .u8 kind, .string name, .int .u64 n, .int .u32 xf, .string xg, .string xb, .slice pa puts.length pc, .slice ta takes.length tc] 57)).heap.size from hB1.size); generalize World.alloc w (.cells #[.int .u8 kind, .string name, .int .u64 n, .int .u32 xf, .string xg, .string xb, .slice pa puts.length pc, .slice ta takes.length tc] 57) = W1 at *; clear a0 a1 a2 a3 a4 a5 a6 a7 z1 z2; go_cut [7] from 8 (fun s7 wx => s7 = .bool (!c1) ∧ Below W1.heap.size W1 wx)
  case first =>
    have A := hAh.out _ hb; have a0 := A.at 0 rfl; have a1 := A.at 1 rfl; have a2 := A.at 2 rfl; have a3 := A.at 3 rfl; have a4 := A.at 4 rfl; have a5 := A.at 5 rfl; have a6 := A.at 6 rfl; have a7 := A.at 7 rfl; have q1 := b1h.out; have q2 := eq_of_ne q1; have q3 := c1h.out; cases nb
    · simp only [Bool.not_false] at q2; rw [if_neg (by simp)] at q3; by_cases hz : name.size = 0
      · obtain rfl : name = ⟨#[]⟩ := size0 hz; obtain rfl : true = c1 := q3; clear hz; go_wp2_with fail; go_meet; exact ⟨rfl, hb⟩
      · obtain rfl : false = c1 := by rw [← q3]; exact (beq_eq_false_iff_ne.2 hz).symm
        have g1 : ¬ name.toList = [] := fun e => hz (by rw [← toList_len, e]; rfl)
        have g2 := empty_no (show 0 < name.size by omega); clear hz q3; go_wp2_with fail; go_meet; exact ⟨rfl, hb⟩
    · simp only [Bool.not_true] at q2; rw [if_pos rfl] at q3; have q3h := Lib.hid q3; clear q3; cases c1
      all_goals
        go_wp2_with (go_at_call 49; (with_reducible refine (qname_any _ name).mono ?_); rintro e w2 ⟨he, hB2⟩; rw [q3h.out] at he; subst he; have hb2 := hb.trans (hB2.mono hb.size)); go_meet; exact ⟨rfl, hb2⟩
  case rest =>
  obtain ⟨rfl, hbn⟩ := hcut; have hb := hbn; clear hbn; cases c1
  · skip; have hf := Lib.hid (show (EnT.mk kind name n (xf, xg, xb) (.slice pa puts.length pc) (.slice ta takes.length tc) puts takes).e.chk = 130 by rw [hchk.out, hok1.out]; rfl); go_wp2; go_ret; exact ⟨by rw [hf.out]; rfl, hB1.trans (hb.mono hsz.out)⟩
  have hok2 := Lib.hid (show ok = (c2 && (c3 && (c4 && wk))) from hok1.out); go_upto_region 4 with fail; go_cut [7] from 8 (fun s7 wx => s7 = .bool (!c2) ∧ Below W1.heap.size W1 wx)
  case first =>
    have A := hAh.out _ hb; have a0 := A.at 0 rfl; have a1 := A.at 1 rfl; have a2 := A.at 2 rfl; have a3 := A.at 3 rfl; have a4 := A.at 4 rfl; have a5 := A.at 5 rfl; have a6 := A.at 6 rfl; have a7 := A.at 7 rfl; have q1 := b2h.out; have q2 := eq_of_ne q1; have q3 := c2h.out; cases mb
    · simp only [Bool.not_false] at q2; rw [if_neg (by simp)] at q3; have q4 : (n != 0) = !c2 := by unfold bne; rw [q3]
      cases c2
      · simp only [Bool.not_false] at q4; have q5 : ¬ n = 0 := bne_iff_ne.1 q4; clear q3; go_wp2_with fail; go_meet; exact ⟨rfl, hb⟩
      · obtain rfl : n = 0 := beq_iff_eq.1 q3; clear q3 q4; go_wp2_with fail; go_meet; exact ⟨rfl, hb⟩
    · simp only [Bool.not_true] at q2; rw [if_pos rfl] at q3; have q3h := Lib.hid q3; clear q3; cases c2
      all_goals
        go_wp2_with (go_at_call 50; (with_reducible refine (eid_any _ n).mono ?_); rintro e w2 ⟨he, rfl⟩; rw [q3h.out] at he; subst he); go_meet; exact ⟨rfl, hb⟩
  case rest =>
  obtain ⟨rfl, hbn⟩ := hcut; have hb := hbn; clear hbn; cases c2
  · skip; have hf := Lib.hid (show (EnT.mk kind name n (xf, xg, xb) (.slice pa puts.length pc) (.slice ta takes.length tc) puts takes).e.chk = 130 by rw [hchk.out, hok2.out]; rfl); go_wp2; go_ret; exact ⟨by rw [hf.out]; rfl, hB1.trans (hb.mono hsz.out)⟩
  have hok3 := Lib.hid (show ok = (c3 && (c4 && wk)) from hok2.out); go_upto_region 5 with fail; go_cut [7] from 8 (fun s7 wx => s7 = .bool (!c3) ∧ Below W1.heap.size W1 wx)
  case first =>
    have A := hAh.out _ hb; have a0 := A.at 0 rfl; have a1 := A.at 1 rfl; have a2 := A.at 2 rfl; have a3 := A.at 3 rfl; have a4 := A.at 4 rfl; have a5 := A.at 5 rfl; have a6 := A.at 6 rfl; have a7 := A.at 7 rfl; have q1 := b4h.out; have q2 := eq_of_ne q1; have q3 := c3h.out; cases xB
    · simp only [Bool.not_false] at q2; rw [if_neg (by simp)] at q3; have qX := fun (v : World) => (xid_neq v xf 0 xg xb ⟨#[]⟩ ⟨#[]⟩).trans (by rw [xz, q3])
      clear q3; cases c3
      all_goals
        go_wp2_with fail; go_meet; exact ⟨rfl, hb⟩
    · simp only [Bool.not_true] at q2; rw [if_pos rfl] at q3; have qc := fun (v : World) => xn_chk v xf xg xb
      simp only [q3] at qc; clear q3; cases c3
      focus
        simp only [Bool.false_eq_true, if_false] at qc
      rotate_left 1
      focus
        simp only [if_true] at qc
      rotate_left 1
      all_goals
        have qch := Lib.hid qc; clear qc; go_wp2_with (go_at_call 46; (with_reducible refine (qch.out _).mono ?_); rintro e w2 ⟨rfl, hB2⟩; have hb2 := hb.trans (hB2.mono hb.size)); go_meet; exact ⟨rfl, hb2⟩
  case rest =>
  obtain ⟨rfl, hbn⟩ := hcut; have hb := hbn; clear hbn; cases c3
  · skip; have hf := Lib.hid (show (EnT.mk kind name n (xf, xg, xb) (.slice pa puts.length pc) (.slice ta takes.length tc) puts takes).e.chk = 130 by rw [hchk.out, hok3.out]; rfl); go_wp2; go_ret; exact ⟨by rw [hf.out]; rfl, hB1.trans (hb.mono hsz.out)⟩
  have hok4 := Lib.hid (show ok = (c4 && wk) from hok3.out); go_upto_region 6 with fail; go_cut [7] from 8 (fun s7 wx => s7 = .bool (!c4) ∧ Below W1.heap.size W1 wx)
  case first =>
    have A := hAh.out _ hb; have a0 := A.at 0 rfl; have a1 := A.at 1 rfl; have a2 := A.at 2 rfl; have a3 := A.at 3 rfl; have a4 := A.at 4 rfl; have a5 := A.at 5 rfl; have a6 := A.at 6 rfl; have a7 := A.at 7 rfl; have q1 := b8h.out; have q2 := eq_of_ne q1; have q3 := c4h.out; cases wb
    · simp only [Bool.not_false] at q2; rw [Bool.false_or] at q3; by_cases hp : 0 < puts.length
      · have g1 : (0 : Int) < (puts.length : Int) := by omega
        have g2 : decide ((0 : Int) < (puts.length : Int)) = true := decide_eq_true g1; have g3 : decide (0 < puts.length) = true := decide_eq_true hp; obtain rfl : false = c4 := by rw [← q3]; cases puts with | nil => simp at hp | cons x l => rfl
        clear q3 hp; go_wp2_with fail; go_meet; exact ⟨rfl, hb⟩
      · have g1 : ¬ (0 : Int) < (puts.length : Int) := by omega
        have g2 : decide ((0 : Int) < (puts.length : Int)) = false := decide_eq_false g1; have g3 : decide (0 < puts.length) = false := decide_eq_false hp; have g4 : puts.isEmpty = true := by cases puts with | nil => rfl | cons x l => simp at hp
        rw [g4, Bool.true_and] at q3; by_cases ht : 0 < takes.length
        · have g5 : (0 : Int) < (takes.length : Int) := by omega
          have g6 : decide ((0 : Int) < (takes.length : Int)) = true := decide_eq_true g5; have g7 : decide (0 < takes.length) = true := decide_eq_true ht; obtain rfl : false = c4 := by rw [← q3]; cases takes with | nil => simp at ht | cons x l => rfl
          clear q3 hp ht g4; go_wp2_with fail; go_meet; exact ⟨rfl, hb⟩
        · have g5 : ¬ (0 : Int) < (takes.length : Int) := by omega
          have g6 : decide ((0 : Int) < (takes.length : Int)) = false := decide_eq_false g5; have g7 : decide (0 < takes.length) = false := decide_eq_false ht; obtain rfl : true = c4 := by rw [← q3]; cases takes with | nil => rfl | cons x l => simp at ht
          clear q3 hp ht g4; go_wp2_with fail; go_meet; exact ⟨rfl, hb⟩
    · simp only [Bool.not_true] at q2; obtain rfl : true = c4 := q3; go_wp2_with fail; go_meet; exact ⟨rfl, hb⟩
  case rest =>
  obtain ⟨rfl, hbn⟩ := hcut; have hb := hbn; clear hbn; cases c4
  · skip; have hf := Lib.hid (show (EnT.mk kind name n (xf, xg, xb) (.slice pa puts.length pc) (.slice ta takes.length tc) puts takes).e.chk = 130 by rw [hchk.out, hok4.out]; rfl); go_wp2; go_ret; exact ⟨by rw [hf.out]; rfl, hB1.trans (hb.mono hsz.out)⟩
  have hok5 := Lib.hid (show ok = wk from hok4.out); go_upto_region 7 with fail; have A := hAh.out _ hb; have a0 := A.at 0 rfl; have a1 := A.at 1 rfl; have a2 := A.at 2 rfl; have a3 := A.at 3 rfl; have a4 := A.at 4 rfl; have a5 := A.at 5 rfl; have a6 := A.at 6 rfl; have a7 := A.at 7 rfl; have hw2 := hwh.out _ (hRh.out _ hb) (hT.pure (hB1.trans (hb.mono hsz.out))); have hw3 := Lib.hid hw2; have hf := Lib.hid (show (EnT.mk kind name n (xf, xg, xb) (.slice pa puts.length pc) (.slice ta takes.length tc) puts takes).e.chk = if wk then 0 else 130 by rw [hchk.out, hok5.out]); clear hw2; cases wk
  all_goals
    go_wp2_with (go_at_call 51; refine (hw3.out).mono ?_; rintro e w3 ⟨rfl, hB3⟩; have hb3 := hb.trans (hB3.mono hb.size)); go_ret; exact ⟨by rw [hf.out]; rfl, hB1.trans (hb3.mono hsz.out)⟩
end Go.Proofs.YtlonokcaddpniaaGreatDoor
