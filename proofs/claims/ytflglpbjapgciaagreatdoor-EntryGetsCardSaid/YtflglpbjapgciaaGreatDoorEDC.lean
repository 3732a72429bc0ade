/- Entries: the document's Check. Condition: texts are short enough to be in memory. Written by gen_edC.py. -/
import Derived.Test.YtflglpbjapgciaaGreatDoorEDA
import Derived.Test.YtflglpbjapgciaaGreatDoorEB
import Derived.Test.YtflglpbjapgciaaGreatDoorKA
import Derived.Deep.CutRange
set_option linter.unusedSimpArgs false
set_option linter.unusedVariables false
namespace Go.Proofs.YtflglpbjapgciaaGreatDoor
open Go.RowKit
/-- Texts that are short enough to be in memory. -/
structure En.Sz (e : En) : Prop where
  name : (e.name.size : Int) < 4611686018427387904
  puts : ∀ p ∈ e.puts, (p.q.size : Int) < 4611686018427387904
  takes : ∀ r ∈ e.takes, (r.q.size : Int) < 4611686018427387904
theorem not_t {b : Bool} (h : (!b) = true) : b = false := by cases b with | false => rfl | true => cases h
theorem not_f {b : Bool} (h : (!b) = false) : b = true := by cases b with | true => rfl | false => cases h
theorem uW_kind {k : Int} (h : uW k = true) : k = 3 ∨ k = 4 := by
  unfold uW at h; by_cases h3 : k = 3
  · exact .inl h3
  by_cases h4 : k = 4
  · exact .inr h4
  exfalso
  have e : us k = 3 ∨ us k = 1 ∨ us k = 6 ∨ us k = 4 ∨ us k = 0 := by
    unfold us; simp only [h3, h4, if_false]
    repeat' split
    all_goals simp
  rcases e with e | e | e | e | e <;> rw [e] at h <;> exact absurd h (by decide)
theorem may_eq {k : Int} (h : k = 3 ∨ k = 4) (p : Pt) : Pt.okB (k == 3) p = (p.mayB && (decide (p.id = 0) == (k == 4))) := by
  rcases h with rfl | rfl
  · rw [show ((3 : Int) == 3) = true from rfl, show ((3 : Int) == 4) = false from rfl, ← may_ok3]; cases decide (p.id = 0) <;> rfl
  · rw [show ((4 : Int) == 3) = false from rfl, show ((4 : Int) == 4) = true from rfl, ← may_ok4]; cases decide (p.id = 0) <;> rfl
theorem all_succ {α : Type} {f : α → Bool} {L : List α} {k : Nat} (hk : k < L.length) (h : (L.take k).all f = true) (hq : f L[k] = true) : (L.take (k + 1)).all f = true := by
  rw [List.take_succ_eq_append_getElem hk, List.all_append, h]; simp [hq]
theorem all_fail {α : Type} {f : α → Bool} {L : List α} {k : Nat} (hk : k < L.length) (hq : f L[k] = false) : L.all f = false := by
  rw [Bool.eq_false_iff]; intro h; rw [List.all_eq_true] at h; rw [h _ (List.getElem_mem hk)] at hq; exact absurd hq (by simp)
set_option maxRecDepth 100000 in
set_option maxHeartbeats 12800000 in
theorem edcheck_any (t : EnT) (P : Nat → Prop) (w : World) (hR : EnRd P w t) (hz : t.e.Sz) : Calls Tryz.prog 27 #[t.arg] w fun e w' => e = .returned (.int .i64 t.e.chk) ∧ Below w.heap.size w w' := by
  obtain ⟨kind, name, n, xf, xg, xb, pa, pc, ta, tc, puts, takes, rfl, hpl, htl⟩ := hR.open; have hzn := Lib.hid (show (name.size : Int) < 4611686018427387904 from hz.name); have hzp := Lib.hid (show ∀ x ∈ puts, (x.q.size : Int) < 4611686018427387904 from fun x hx => hz.puts x.p (List.mem_map.2 ⟨x, hx, rfl⟩)); have hzt := Lib.hid (show ∀ r ∈ takes, (r.q.size : Int) < 4611686018427387904 from hz.takes); clear hz; have hB1 := (Below.refl w.heap.size w).alloc (Nat.le_refl _) (.cells #[.int .u8 kind, .string name, .int .u64 n, .int .u32 xf, .string xg, .string xb, .slice pa puts.length pc, .slice ta takes.length tc] 29); have A1 := Blk.new w [.int .u8 kind, .string name, .int .u64 n, .int .u32 xf, .string xg, .string xb, .slice pa puts.length pc, .slice ta takes.length tc] 29; have R1 := hR.pure hB1; obtain ⟨wk, hwk⟩ : ∃ b, (EnT.mk kind name n (xf, xg, xb) (.slice pa puts.length pc) (.slice ta takes.length tc) puts takes).wk = b := ⟨_, rfl⟩
  have hwkh := Lib.hid (show wk = (decide (puts.length ≤ 100) && decide (takes.length ≤ 100) && puts.all (fun p => Pt.okB (kind == 3) p.p) && takes.all Rf.okB) from hwk.symm); obtain ⟨c1, hc1⟩ : ∃ b, (if uN kind then qn name else name.size == 0) = b := ⟨_, rfl⟩
  obtain ⟨c2, hc2⟩ : ∃ b, (if uM kind then idOk n else n == 0) = b := ⟨_, rfl⟩
  obtain ⟨c3, hc3⟩ : ∃ b, (if uX kind then Xn.okB (xf, xg, xb) else (xf == 0 && xg.size == 0 && xb.size == 0)) = b := ⟨_, rfl⟩
  obtain ⟨c4, hc4⟩ : ∃ b, (uW kind || (puts.isEmpty && takes.isEmpty)) = b := ⟨_, rfl⟩
  obtain ⟨u, hu⟩ : ∃ u, us kind = u := ⟨_, rfl⟩
  have hok := ok_eq kind name n xf xg xb (.slice pa puts.length pc) (.slice ta takes.length tc) puts takes; rw [hwk, hc1, hc2, hc3, hc4, hu] at hok; obtain ⟨nb, hnb⟩ : ∃ b, uN kind = b := ⟨_, rfl⟩
  obtain ⟨mb, hmb⟩ : ∃ b, uM kind = b := ⟨_, rfl⟩
  obtain ⟨xB, hxb⟩ : ∃ b, uX kind = b := ⟨_, rfl⟩
  obtain ⟨wb, hwb⟩ : ∃ b, uW kind = b := ⟨_, rfl⟩
  rw [hnb] at hc1; rw [hmb] at hc2; rw [hxb] at hc3; rw [hwb] at hc4; have hrow := row_any (w.alloc (.cells #[.int .u8 kind, .string name, .int .u64 n, .int .u32 xf, .string xg, .string xb, .slice pa puts.length pc, .slice ta takes.length tc] 29)) kind; rw [hnb, hmb, hxb, hwb, hu] at hrow; obtain ⟨e0, he0⟩ : ∃ e, (EnT.mk kind name n (xf, xg, xb) (.slice pa puts.length pc) (.slice ta takes.length tc) puts takes).e = e := ⟨_, rfl⟩
  rw [he0] at hok ⊢; obtain ⟨ok, hoke⟩ : ∃ b, e0.okB = b := ⟨_, rfl⟩
  have hchk := Lib.hid (show e0.chk = if ok then 0 else 130 by unfold En.chk; rw [hoke]); rw [hoke] at hok; have hokh := Lib.hid hok; have c1h := Lib.hid hc1; have c2h := Lib.hid hc2; have c3h := Lib.hid hc3; have c4h := Lib.hid hc4; have hwbh := Lib.hid hwb; have hml := Lib.hid (show puts.length ≤ maxLen ∧ takes.length ≤ maxLen from ⟨hpl, htl⟩); rw [EnT.arg_mk]; by_cases hu0 : u = 0
  · subst hu0; have hf := Lib.hid (show e0.chk = 130 by rw [hchk.out, hokh.out]; rfl); have hrow2 := Lib.hid (show Calls Tryz.prog 28 #[.int .u8 kind] (w.alloc (.cells #[.int .u8 kind, .string name, .int .u64 n, .int .u32 xf, .string xg, .string xb, .slice pa puts.length pc, .slice ta takes.length tc] 29)) (fun e w' => e = .returned (.tuple #[.bool nb, .bool mb, .bool xB, .bool wb, .bool false]) ∧ (w.alloc (.cells #[.int .u8 kind, .string name, .int .u64 n, .int .u32 xf, .string xg, .string xb, .slice pa puts.length pc, .slice ta takes.length tc] 29)) = w') from hrow); clear hrow hwk hc1 hc2 hc3 hc4 hu hok hnb hmb hxb hwb hoke he0 hpl htl; have a0 := A1.at 0 rfl; have a1 := A1.at 1 rfl; have a2 := A1.at 2 rfl; have a3 := A1.at 3 rfl; have a4 := A1.at 4 rfl; have a5 := A1.at 5 rfl; have a6 := A1.at 6 rfl; have a7 := A1.at 7 rfl; go_enter Tryz.func27, Tryz.ntmps27; go_wp2_with (go_at_call 28; (with_reducible refine (hrow2.out).mono ?_); rintro e w2 ⟨rfl, rfl⟩); go_ret; exact ⟨by rw [hf.out]; rfl, hB1⟩
  have hok1 := Lib.hid (show ok = (c1 && (c2 && (c3 && (c4 && wk)))) by rw [hokh.out, beq_eq_false_iff_ne.2 hu0]; rfl); have hrow2 := Lib.hid (show Calls Tryz.prog 28 #[.int .u8 kind] (w.alloc (.cells #[.int .u8 kind, .string name, .int .u64 n, .int .u32 xf, .string xg, .string xb, .slice pa puts.length pc, .slice ta takes.length tc] 29)) (fun e w' => e = .returned (.tuple #[.bool nb, .bool mb, .bool xB, .bool wb, .bool true]) ∧ (w.alloc (.cells #[.int .u8 kind, .string name, .int .u64 n, .int .u32 xf, .string xg, .string xb, .slice pa puts.length pc, .slice ta takes.length tc] 29)) = w') by rw [show true = !(u == 0) by rw [beq_eq_false_iff_ne.2 hu0]; rfl]; exact hrow); clear hu0 hrow hwk hc1 hc2 hc3 hc4 hu hok hnb hmb hxb hwb hoke he0 hpl htl; have a0 := A1.at 0 rfl; have a1 := A1.at 1 rfl; have a2 := A1.at 2 rfl; have a3 := A1.at 3 rfl; have a4 := A1.at 4 rfl; have a5 := A1.at 5 rfl; have a6 := A1.at 6 rfl; have a7 := A1.at 7 rfl; by_cases hp : puts.length ≤ 100
  rotate_left 1
  · have d1 : decide ((100 : Int) < (puts.length : Int)) = true := decide_eq_true (by omega); have d2 : (100 : Int) < (puts.length : Int) := by omega
    have hw0 : wk = false := by rw [hwkh.out, decide_eq_false hp]; simp
    have hf := Lib.hid (show e0.chk = 130 by rw [hchk.out, hok1.out, hw0]; simp); clear hp hw0; go_enter Tryz.func27, Tryz.ntmps27; go_wp2_with (go_at_call 28; (with_reducible refine (hrow2.out).mono ?_); rintro e w2 ⟨rfl, rfl⟩); go_ret; exact ⟨by rw [hf.out]; rfl, hB1⟩
  have hpd1 : decide ((100 : Int) < (puts.length : Int)) = false := decide_eq_false (by omega); have hpd2 : ¬ (100 : Int) < (puts.length : Int) := by omega
  have hph := Lib.hid hp; by_cases ht : takes.length ≤ 100
  rotate_left 1
  · have d1 : decide ((100 : Int) < (takes.length : Int)) = true := decide_eq_true (by omega); have d2 : (100 : Int) < (takes.length : Int) := by omega
    have hw0 : wk = false := by rw [hwkh.out, decide_eq_false ht]; simp
    have hf := Lib.hid (show e0.chk = 130 by rw [hchk.out, hok1.out, hw0]; simp); clear ht hw0; go_enter Tryz.func27, Tryz.ntmps27; go_wp2_with (go_at_call 28; (with_reducible refine (hrow2.out).mono ?_); rintro e w2 ⟨rfl, rfl⟩); go_ret; exact ⟨by rw [hf.out]; rfl, hB1⟩
  have htd1 : decide ((100 : Int) < (takes.length : Int)) = false := decide_eq_false (by omega); have htd2 : ¬ (100 : Int) < (takes.length : Int) := by omega
  have hth := Lib.hid ht; obtain ⟨pb, hpb⟩ : ∃ b, puts.all (fun p => Pt.okB (kind == 3) p.p) = b := ⟨_, rfl⟩
  obtain ⟨tb, htb⟩ : ∃ b, takes.all Rf.okB = b := ⟨_, rfl⟩
  have hok2 := Lib.hid (show ok = (c1 && (c2 && (c3 && (c4 && (pb && tb))))) by rw [hok1.out, hwkh.out, hpb, htb, decide_eq_true hp, decide_eq_true ht]; rfl); have hpbh := Lib.hid hpb; have htbh := Lib.hid htb; clear hp ht hpb htb hok1; have hAh := Lib.hid (fun (v : World) (h : Below (w.alloc (.cells #[.int .u8 kind, .string name, .int .u64 n, .int .u32 xf, .string xg, .string xb, .slice pa puts.length pc, .slice ta takes.length tc] 29)).heap.size (w.alloc (.cells #[.int .u8 kind, .string name, .int .u64 n, .int .u32 xf, .string xg, .string xb, .slice pa puts.length pc, .slice ta takes.length tc] 29)) v) => A1.pure h); have hRh := Lib.hid (fun (v : World) (h : Below (w.alloc (.cells #[.int .u8 kind, .string name, .int .u64 n, .int .u32 xf, .string xg, .string xb, .slice pa puts.length pc, .slice ta takes.length tc] 29)).heap.size (w.alloc (.cells #[.int .u8 kind, .string name, .int .u64 n, .int .u32 xf, .string xg, .string xb, .slice pa puts.length pc, .slice ta takes.length tc] 29)) v) => R1.pure h); go_enter Tryz.func27, Tryz.ntmps27; go_upto_region 4 with (go_at_call 28; (with_reducible refine (hrow2.out).mono ?_); rintro e w2 ⟨rfl, rfl⟩); have hb := Below.refl (w.alloc (.cells #[.int .u8 kind, .string name, .int .u64 n, .int .u32 xf, .string xg, .string xb, .slice pa puts.length pc, .slice ta takes.length tc] 29)).heap.size (w.alloc (.cells #[.int .u8 kind, .string name, .int .u64 n, .int .u32 xf, .string xg, .string xb, .slice pa puts.length pc, .slice ta takes.length tc] 29)); have hsz := Lib.hid (show w.heap.size ≤ (w.alloc (.cells #[.int .u8 kind, .string name, .int .u64 n, .int .u32 xf, .string xg, .string xb, .slice pa puts.length pc, .slice ta takes.length tc] 29)).heap.size from hB1.size); generalize World.alloc w (.cells #[.int .u8 kind, .string name, .int .u64 n, .int .u32 xf, .string xg, .string xb, .slice pa puts.length pc, .slice ta takes.length tc] 29) = W1 at *; clear a0 a1 a2 a3 a4 a5 a6 a7 hpd1 hpd2 htd1 htd2; go_cut [66] from 33 to 65 (fun s66 wx => s66 = .bool (!(c1 && c2)) ∧ Below W1.heap.size W1 wx)
  case first =>
    have A := hAh.out _ hb; have a0 := A.at 0 rfl; have a1 := A.at 1 rfl; have a2 := A.at 2 rfl; have a3 := A.at 3 rfl; have a4 := A.at 4 rfl; have a5 := A.at 5 rfl; have a6 := A.at 6 rfl; have a7 := A.at 7 rfl; have q3 := c1h.out; cases nb
    · rw [if_neg (by simp)] at q3; by_cases hz : name.size = 0
      · obtain rfl : name = ⟨#[]⟩ := size0 hz; obtain rfl : true = c1 := q3; clear hz; have q5 := c2h.out; cases mb
        · rw [if_neg (by simp)] at q5; by_cases hn0 : n = 0
          focus
            obtain rfl : true = c2 := by rw [← q5, hn0]; rfl
            clear q5; obtain rfl : n = 0 := hn0
          rotate_left 1
          focus
            obtain rfl : false = c2 := by rw [← q5]; exact (beq_eq_false_iff_ne.2 hn0).symm
            have e1 : (n != 0) = true := bne_iff_ne.2 hn0; have e2 : (n == 0) = false := beq_eq_false_iff_ne.2 hn0; clear q5 hn0
          rotate_left 1
          all_goals
            go_wp2_with (first | (go_at_call 62; (with_reducible refine (dqname_any _ name hzn.out).mono ?_); rintro e w2 ⟨he, hB2⟩; rw [q3h.out] at he; subst he; have hb2 := hb.trans (hB2.mono hb.size); have A2 := hAh.out _ hb2; have m2 := A2.at 2 rfl) | (go_at_call 63; (with_reducible refine (did_any _ n).mono ?_); rintro e w3 ⟨he, rfl⟩; rw [q6h.out] at he; subst he)); go_meet; exact ⟨rfl, hb⟩
        · rw [if_pos rfl] at q5; have q6h := Lib.hid q5; clear q5; cases c2
          all_goals
            skip; go_wp2_with (first | (go_at_call 62; (with_reducible refine (dqname_any _ name hzn.out).mono ?_); rintro e w2 ⟨he, hB2⟩; rw [q3h.out] at he; subst he; have hb2 := hb.trans (hB2.mono hb.size); have A2 := hAh.out _ hb2; have m2 := A2.at 2 rfl) | (go_at_call 63; (with_reducible refine (did_any _ n).mono ?_); rintro e w3 ⟨he, rfl⟩; rw [q6h.out] at he; subst he)); go_meet; exact ⟨rfl, hb⟩
      · obtain rfl : false = c1 := by rw [← q3]; exact (beq_eq_false_iff_ne.2 hz).symm
        have g1 : ¬ name.toList = [] := fun e => hz (by rw [← toList_len, e]; rfl)
        have g2 := empty_no (show 0 < name.size by omega); clear hz q3; go_wp2_with (first | (go_at_call 62; (with_reducible refine (dqname_any _ name hzn.out).mono ?_); rintro e w2 ⟨he, hB2⟩; rw [q3h.out] at he; subst he; have hb2 := hb.trans (hB2.mono hb.size); have A2 := hAh.out _ hb2; have m2 := A2.at 2 rfl) | (go_at_call 63; (with_reducible refine (did_any _ n).mono ?_); rintro e w3 ⟨he, rfl⟩; rw [q6h.out] at he; subst he)); go_meet; exact ⟨rfl, hb⟩
    · rw [if_pos rfl] at q3; have q3h := Lib.hid q3; clear q3; cases c1
      · skip; go_wp2_with (first | (go_at_call 62; (with_reducible refine (dqname_any _ name hzn.out).mono ?_); rintro e w2 ⟨he, hB2⟩; rw [q3h.out] at he; subst he; have hb2 := hb.trans (hB2.mono hb.size); have A2 := hAh.out _ hb2; have m2 := A2.at 2 rfl) | (go_at_call 63; (with_reducible refine (did_any _ n).mono ?_); rintro e w3 ⟨he, rfl⟩; rw [q6h.out] at he; subst he)); go_meet; exact ⟨rfl, hb2⟩
      · skip; have q5 := c2h.out; cases mb
        · rw [if_neg (by simp)] at q5; by_cases hn0 : n = 0
          focus
            obtain rfl : true = c2 := by rw [← q5, hn0]; rfl
            clear q5; obtain rfl : n = 0 := hn0
          rotate_left 1
          focus
            obtain rfl : false = c2 := by rw [← q5]; exact (beq_eq_false_iff_ne.2 hn0).symm
            have e1 : (n != 0) = true := bne_iff_ne.2 hn0; have e2 : (n == 0) = false := beq_eq_false_iff_ne.2 hn0; clear q5 hn0
          rotate_left 1
          all_goals
            go_wp2_with (first | (go_at_call 62; (with_reducible refine (dqname_any _ name hzn.out).mono ?_); rintro e w2 ⟨he, hB2⟩; rw [q3h.out] at he; subst he; have hb2 := hb.trans (hB2.mono hb.size); have A2 := hAh.out _ hb2; have m2 := A2.at 2 rfl) | (go_at_call 63; (with_reducible refine (did_any _ n).mono ?_); rintro e w3 ⟨he, rfl⟩; rw [q6h.out] at he; subst he)); go_meet; exact ⟨rfl, hb2⟩
        · rw [if_pos rfl] at q5; have q6h := Lib.hid q5; clear q5; cases c2
          all_goals
            skip; go_wp2_with (first | (go_at_call 62; (with_reducible refine (dqname_any _ name hzn.out).mono ?_); rintro e w2 ⟨he, hB2⟩; rw [q3h.out] at he; subst he; have hb2 := hb.trans (hB2.mono hb.size); have A2 := hAh.out _ hb2; have m2 := A2.at 2 rfl) | (go_at_call 63; (with_reducible refine (did_any _ n).mono ?_); rintro e w3 ⟨he, rfl⟩; rw [q6h.out] at he; subst he)); go_meet; exact ⟨rfl, hb2⟩
  case rest =>
  obtain ⟨rfl, hbn⟩ := hcut; have hb := hbn; clear hbn; obtain ⟨c12, hc12⟩ : ∃ b, (!(c1 && c2)) = b := ⟨_, rfl⟩
  have hc12h := Lib.hid hc12; rw [hc12]; clear hc12; cases c12
  rotate_left 1
  · skip; have hf := Lib.hid (show e0.chk = 130 by rw [hchk.out, hok2.out]; rw [← Bool.and_assoc, not_t hc12h.out]; rfl); go_wp2; go_ret; exact ⟨by rw [hf.out]; rfl, hB1.trans (hb.mono hsz.out)⟩
  have hok3 := Lib.hid (show ok = (c3 && (c4 && (pb && tb))) by rw [hok2.out, ← Bool.and_assoc, not_f hc12h.out]; rfl); clear hc12h hok2; go_upto_region 6 with fail; go_cut [97] from 67 to 96 (fun s97 wx => s97 = .bool (!(c3 && c4)) ∧ Below W1.heap.size W1 wx)
  case first =>
    have A := hAh.out _ hb; have a0 := A.at 0 rfl; have a1 := A.at 1 rfl; have a2 := A.at 2 rfl; have a3 := A.at 3 rfl; have a4 := A.at 4 rfl; have a5 := A.at 5 rfl; have a6 := A.at 6 rfl; have a7 := A.at 7 rfl; have q3 := c3h.out; have zx := xid_info; have hwr : wrap64 ((puts.length : Int) + (takes.length : Int)) = ((puts.length + takes.length : Nat) : Int) := by rw [IntWalk.wrap64_in _ (by have := hph.out; have := hth.out; omega)]; omega
    cases xB
    · rw [if_neg (by simp)] at q3; have qX := fun (v : World) => (xid_neq v xf 0 xg xb ⟨#[]⟩ ⟨#[]⟩).trans (by rw [xz, q3])
      clear q3; cases c3
      · skip; go_wp2_with (go_at_call 64; (with_reducible refine (qch.out _).mono ?_); rintro e w2 ⟨rfl, hB2⟩; have hb2 := hb.trans (hB2.mono hb.size); have A2 := hAh.out _ hb2; have m0 := A2.at 0 rfl; have m1 := A2.at 1 rfl; have m2 := A2.at 2 rfl; have m3 := A2.at 3 rfl; have m4 := A2.at 4 rfl; have m5 := A2.at 5 rfl; have m6 := A2.at 6 rfl; have m7 := A2.at 7 rfl); go_meet; exact ⟨rfl, hb⟩
      · skip; have q5 := c4h.out; cases wb
        · rw [Bool.false_or] at q5; by_cases hl : 0 < puts.length + takes.length
          focus
            have g1 : (0 : Int) < ((puts.length + takes.length : Nat) : Int) := by omega
            have g2 : decide ((0 : Int) < ((puts.length + takes.length : Nat) : Int)) = true := decide_eq_true g1; have g3 : decide (0 < puts.length + takes.length) = true := decide_eq_true hl; have g4 : (0 : Int) < (puts.length : Int) + (takes.length : Int) := by omega
            have g5 : decide ((0 : Int) < (puts.length : Int) + (takes.length : Int)) = true := decide_eq_true g4; obtain rfl : false = c4 := by rw [← q5]; cases puts with | nil => (cases takes with | nil => simp at hl | cons x l => rfl) | cons x l => rfl
          rotate_left 1
          focus
            have g1 : ¬ (0 : Int) < ((puts.length + takes.length : Nat) : Int) := by omega
            have g2 : decide ((0 : Int) < ((puts.length + takes.length : Nat) : Int)) = false := decide_eq_false g1; have g3 : decide (0 < puts.length + takes.length) = false := decide_eq_false hl; have g4 : ¬ (0 : Int) < (puts.length : Int) + (takes.length : Int) := by omega
            have g5 : decide ((0 : Int) < (puts.length : Int) + (takes.length : Int)) = false := decide_eq_false g4; obtain rfl : true = c4 := by rw [← q5]; cases puts with | nil => (cases takes with | nil => rfl | cons x l => simp at hl) | cons x l => simp at hl
          rotate_left 1
          all_goals
            clear q5 hl; go_wp2_with (go_at_call 64; (with_reducible refine (qch.out _).mono ?_); rintro e w2 ⟨rfl, hB2⟩; have hb2 := hb.trans (hB2.mono hb.size); have A2 := hAh.out _ hb2; have m0 := A2.at 0 rfl; have m1 := A2.at 1 rfl; have m2 := A2.at 2 rfl; have m3 := A2.at 3 rfl; have m4 := A2.at 4 rfl; have m5 := A2.at 5 rfl; have m6 := A2.at 6 rfl; have m7 := A2.at 7 rfl); go_meet; exact ⟨rfl, hb⟩
        · obtain rfl : true = c4 := q5; go_wp2_with (go_at_call 64; (with_reducible refine (qch.out _).mono ?_); rintro e w2 ⟨rfl, hB2⟩; have hb2 := hb.trans (hB2.mono hb.size); have A2 := hAh.out _ hb2; have m0 := A2.at 0 rfl; have m1 := A2.at 1 rfl; have m2 := A2.at 2 rfl; have m3 := A2.at 3 rfl; have m4 := A2.at 4 rfl; have m5 := A2.at 5 rfl; have m6 := A2.at 6 rfl; have m7 := A2.at 7 rfl); go_meet; exact ⟨rfl, hb⟩
    · rw [if_pos rfl] at q3; have qc := fun (v : World) => dxcheck_any v xf xg xb
      simp only [q3] at qc; clear q3; cases c3
      · simp only [Bool.false_eq_true, if_false] at qc; have qch := Lib.hid qc; clear qc; go_wp2_with (go_at_call 64; (with_reducible refine (qch.out _).mono ?_); rintro e w2 ⟨rfl, hB2⟩; have hb2 := hb.trans (hB2.mono hb.size); have A2 := hAh.out _ hb2; have m0 := A2.at 0 rfl; have m1 := A2.at 1 rfl; have m2 := A2.at 2 rfl; have m3 := A2.at 3 rfl; have m4 := A2.at 4 rfl; have m5 := A2.at 5 rfl; have m6 := A2.at 6 rfl; have m7 := A2.at 7 rfl); go_meet; exact ⟨rfl, hb2⟩
      · simp only [if_true] at qc; have qch := Lib.hid qc; clear qc; have q5 := c4h.out; cases wb
        · rw [Bool.false_or] at q5; by_cases hl : 0 < puts.length + takes.length
          focus
            have g1 : (0 : Int) < ((puts.length + takes.length : Nat) : Int) := by omega
            have g2 : decide ((0 : Int) < ((puts.length + takes.length : Nat) : Int)) = true := decide_eq_true g1; have g3 : decide (0 < puts.length + takes.length) = true := decide_eq_true hl; have g4 : (0 : Int) < (puts.length : Int) + (takes.length : Int) := by omega
            have g5 : decide ((0 : Int) < (puts.length : Int) + (takes.length : Int)) = true := decide_eq_true g4; obtain rfl : false = c4 := by rw [← q5]; cases puts with | nil => (cases takes with | nil => simp at hl | cons x l => rfl) | cons x l => rfl
          rotate_left 1
          focus
            have g1 : ¬ (0 : Int) < ((puts.length + takes.length : Nat) : Int) := by omega
            have g2 : decide ((0 : Int) < ((puts.length + takes.length : Nat) : Int)) = false := decide_eq_false g1; have g3 : decide (0 < puts.length + takes.length) = false := decide_eq_false hl; have g4 : ¬ (0 : Int) < (puts.length : Int) + (takes.length : Int) := by omega
            have g5 : decide ((0 : Int) < (puts.length : Int) + (takes.length : Int)) = false := decide_eq_false g4; obtain rfl : true = c4 := by rw [← q5]; cases puts with | nil => (cases takes with | nil => rfl | cons x l => simp at hl) | cons x l => simp at hl
          rotate_left 1
          all_goals
            clear q5 hl; go_wp2_with (go_at_call 64; (with_reducible refine (qch.out _).mono ?_); rintro e w2 ⟨rfl, hB2⟩; have hb2 := hb.trans (hB2.mono hb.size); have A2 := hAh.out _ hb2; have m0 := A2.at 0 rfl; have m1 := A2.at 1 rfl; have m2 := A2.at 2 rfl; have m3 := A2.at 3 rfl; have m4 := A2.at 4 rfl; have m5 := A2.at 5 rfl; have m6 := A2.at 6 rfl; have m7 := A2.at 7 rfl); go_meet; exact ⟨rfl, hb2⟩
        · obtain rfl : true = c4 := q5; go_wp2_with (go_at_call 64; (with_reducible refine (qch.out _).mono ?_); rintro e w2 ⟨rfl, hB2⟩; have hb2 := hb.trans (hB2.mono hb.size); have A2 := hAh.out _ hb2; have m0 := A2.at 0 rfl; have m1 := A2.at 1 rfl; have m2 := A2.at 2 rfl; have m3 := A2.at 3 rfl; have m4 := A2.at 4 rfl; have m5 := A2.at 5 rfl; have m6 := A2.at 6 rfl; have m7 := A2.at 7 rfl); go_meet; exact ⟨rfl, hb2⟩
  case rest =>
  obtain ⟨rfl, hbn⟩ := hcut; have hb := hbn; clear hbn; obtain ⟨c34, hc34⟩ : ∃ b, (!(c3 && c4)) = b := ⟨_, rfl⟩
  have hc34h := Lib.hid hc34; rw [hc34]; clear hc34; have hok2 := hok3; cases c34
  rotate_left 1
  · skip; have hf := Lib.hid (show e0.chk = 130 by rw [hchk.out, hok2.out]; rw [← Bool.and_assoc, not_t hc34h.out]; rfl); go_wp2; go_ret; exact ⟨by rw [hf.out]; rfl, hB1.trans (hb.mono hsz.out)⟩
  have hok4 := Lib.hid (show ok = (pb && tb) by rw [hok3.out, ← Bool.and_assoc, not_f hc34h.out]; rfl); have hc4 := Lib.hid (show c4 = true from (Bool.and_eq_true_iff.1 (not_f hc34h.out)).2); clear hc34h hok2 hok3; go_upto_region 8 with fail; go_wp2_with fail; go_loopw [8] (fun s8 wr => ∃ k : Nat, k ≤ puts.length ∧ s8 = .int .i64 (k : Int) ∧ Hid ((puts.take k).all (fun p : PtT => Pt.okB (kind == 3) p.p) = true) ∧ Below W1.heap.size W1 wr) (fun s8 _ => puts.length - (intOf s8).toNat)
  case atStart => exact ⟨0, by omega, rfl, Lib.hid (by simp), hb⟩
  case round =>
    clear hb; obtain ⟨k, hk, rfl, hall, hb⟩ := hrel; have A := hAh.out _ hb; have a6 := A.at 6 rfl; by_cases hlt : k < puts.length
    · have h1 : (k : Int) < (puts.length : Int) := by omega
      have l1 : (puts.length : Int) ≤ 100 := by have := hph.out; omega
      have hLr : Slc ptEnc 12 wr (.slice pa puts.length pc) puts := (hRh.out _ hb).p; obtain ⟨g0, off, rfl⟩ := hLr.addrB hlt; have hRk := (hRh.out _ hb).r puts[k] (List.getElem_mem hlt); obtain ⟨q, id, key, dur, red, mid, uk, un, us, uka, ukc, ula, ulc, uks, ul, body, hx, q0, q1, q2, q3, q4, q5, q6, q7, q8, q9, q10, q11⟩ := pt_elem hLr hlt hRk
      have hkk := Lib.hid (show kind = 3 ∨ kind = 4 by
        have h := c4h.out; rw [hc4.out] at h
        cases wb with
        | true => exact uW_kind hwbh.out
        | false => exfalso; cases puts with | nil => simp at hlt | cons x l => simp at h)
      have hfx := Lib.hid (show (fun p : PtT => Pt.okB (kind == 3) p.p) puts[k] = ((PtT.mk q id (PT.mk key dur red mid (VT.mk uk un us (.slice uka uks.length ukc) (.slice ula ul.length ulc) uks ul)) body).p.mayB && (decide (id = 0) == (kind == 4))) by show Pt.okB (kind == 3) puts[k].p = _; rw [may_eq hkk.out, hx]; rfl); obtain ⟨mb1, hmb1⟩ : ∃ b, (PtT.mk q id (PT.mk key dur red mid (VT.mk uk un us (.slice uka uks.length ukc) (.slice ula ul.length ulc) uks ul)) body).p.mayB = b := ⟨_, rfl⟩
      have hmh := Lib.hid hmb1; obtain ⟨zb, hzb⟩ : ∃ b, decide (id = 0) = b := ⟨_, rfl⟩
      obtain ⟨kb, hkb⟩ : ∃ b, (kind == 4) = b := ⟨_, rfl⟩
      have z1 : (id == 0) = zb := hzb; have hf2 := Lib.hid (show (fun p : PtT => Pt.okB (kind == 3) p.p) puts[k] = (mb1 && (zb == kb)) by rw [hfx.out, hmb1, hzb, hkb]); have hqs := Lib.hid (show (q.size : Int) < 4611686018427387904 by have h := hzp.out puts[k] (List.getElem_mem hlt); rw [hx] at h; exact h); rw [hx] at hRk; have hRk : Rd P wr (VT.mk uk un us (.slice uka uks.length ukc) (.slice ula ul.length ulc) uks ul) := hRk; have hAA := Lib.hid (fun (v : World) (h : Below wr.heap.size wr v) => A.pure h)
      have hcx := Lib.hid (fun (v : World) (h : Below wr.heap.size wr v) => show v.cell? ⟨g0, off + k * 12, none⟩ = some (.string q) ∧ v.cell? ⟨g0, off + k * 12 + 1, none⟩ = some (.int .u64 id) ∧ v.cell? ⟨g0, off + k * 12 + 2, none⟩ = some (.string key) ∧ v.cell? ⟨g0, off + k * 12 + 3, none⟩ = some (.bool dur) ∧ v.cell? ⟨g0, off + k * 12 + 4, none⟩ = some (.bool red) ∧ v.cell? ⟨g0, off + k * 12 + 5, none⟩ = some (.string mid) ∧ v.cell? ⟨g0, off + k * 12 + 6, none⟩ = some (.int .u8 uk) ∧ v.cell? ⟨g0, off + k * 12 + 7, none⟩ = some (.int .u64 un) ∧ v.cell? ⟨g0, off + k * 12 + 8, none⟩ = some (.string us) ∧ v.cell? ⟨g0, off + k * 12 + 9, none⟩ = some (.slice uka uks.length ukc) ∧ v.cell? ⟨g0, off + k * 12 + 10, none⟩ = some (.slice ula ul.length ulc) ∧ v.cell? ⟨g0, off + k * 12 + 11, none⟩ = some (.string body) from by
        have hL9 : Slc ptEnc 12 v (.slice (some ⟨g0, off, none⟩) puts.length pc) puts := hLr.pure h; have hc := fun j u (hu : (ptEnc puts[k])[j]? = some u) => hL9.get k hlt j u hu
        rw [hx] at hc
        exact ⟨hc 0 _ rfl, hc 1 _ rfl, hc 2 _ rfl, hc 3 _ rfl, hc 4 _ rfl, hc 5 _ rfl, hc 6 _ rfl, hc 7 _ rfl, hc 8 _ rfl, hc 9 _ rfl, hc 10 _ rfl, hc 11 _ rfl⟩)
      have hRR := Lib.hid (fun (v : World) (h : Below wr.heap.size wr v) => hRk.pure h); clear hx hfx hmb1 hzb hRk hLr q0 q1 q2 q3 q4 q5 q6 q7 q8 q9 q10 q11; cases mb1
      · have hb0 := Lib.hid hb; clear hb z1 hkb; go_wp2_with fail; have hb := below_refl_dr wr; refine wp_region_held_drew (S := fun u => Below wr.heap.size wr u) (by kernel_rfl) hb (fun hHeld => ?_); refine takeY 0 105 rfl rfl (v := ?_) ?_ hHeld ?_
        rotate_left 1
        · (intro u hSw; (try dsimp only at hSw); clear hSw; go_simp; (try with_reducible rfl))
        (try simp only [Act.put, lsT, lsZ, lsS]); refine takeY 1 106 rfl rfl (v := ?_) ?_ hHeld ?_
        rotate_left 1
        · (intro u hSw; (try dsimp only at hSw); have q := (hAA.out u hSw).at 6 rfl; clear hSw; go_simp; (try with_reducible rfl))
        (try simp only [Act.put, lsT, lsZ, lsS]); refine takeY 2 107 rfl rfl (v := ?_) ?_ hHeld ?_
        rotate_left 1
        · (intro u hSw; (try dsimp only at hSw); clear hSw; go_simp; (try with_reducible rfl))
        (try simp only [Act.put, lsT, lsZ, lsS]); refine takeY 3 108 rfl rfl (v := ?_) ?_ hHeld ?_
        rotate_left 1
        · (intro u hSw; (try dsimp only at hSw); clear hSw; go_simp; (try with_reducible rfl))
        (try simp only [Act.put, lsT, lsZ, lsS]); refine takeY 4 109 rfl rfl (v := ?_) ?_ hHeld ?_
        rotate_left 1
        · (intro u hSw; (try dsimp only at hSw); obtain ⟨q0, q1, q2, q3, q4, q5, q6, q7, q8, q9, q10, q11⟩ := hcx.out u hSw; clear hSw; go_simp; (try with_reducible rfl))
        (try simp only [Act.put, lsT, lsZ, lsS]); refine wpAnyH_ready (rs := [5]) (by kernel_rfl) (by simp) ?_; refine AllReadyH.cons rfl (fun K hK => ?_) AllReadyH.nil; go_simp; go_at_call 65; have hc := dmayput_any (PtT.mk q id (PT.mk key dur red mid (VT.mk uk un us (.slice uka uks.length ukc) (.slice ula ul.length ulc) uks ul)) body) P _ (hRR.out _ hb) hqs.out; rw [hmh.out, PtT.arg_mk] at hc; refine hc.mono ?_; rintro e wn ⟨rfl, hBn⟩; clear hc; have hb := hb.trans (hBn.mono hb.size); refine hK.out _ _ hb (fun hHeld => ?_); clear hK K; (try simp only [Act.put, lsT, lsZ, lsS]); refine takeY 6 111 rfl rfl (v := ?_) ?_ hHeld ?_
        rotate_left 1
        · (intro u hSw; (try dsimp only at hSw); clear hSw; go_simp; (try with_reducible rfl))
        (try simp only [Act.put, lsT, lsZ, lsS]); refine takeY 7 112 rfl rfl (v := ?_) ?_ hHeld ?_
        rotate_left 1
        · (intro u hSw; (try dsimp only at hSw); clear hSw; go_simp; (try with_reducible rfl))
        (try simp only [Act.put, lsT, lsZ, lsS]); refine takeN 8 113 rfl rfl hHeld ?_; (try simp only [Act.put, lsT, lsZ, lsS]); refine takeN 9 114 rfl rfl hHeld ?_; (try simp only [Act.put, lsT, lsZ, lsS]); refine takeN 10 115 rfl rfl hHeld ?_; (try simp only [Act.put, lsT, lsZ, lsS]); refine takeN 11 116 rfl rfl hHeld ?_; (try simp only [Act.put, lsT, lsZ, lsS]); refine takeN 12 117 rfl rfl hHeld ?_; (try simp only [Act.put, lsT, lsZ, lsS]); refine takeN 13 118 rfl rfl hHeld ?_; (try simp only [Act.put, lsT, lsZ, lsS]); refine takeN 14 119 rfl rfl hHeld ?_; (try simp only [Act.put, lsT, lsZ, lsS]); refine takeN 15 120 rfl rfl hHeld ?_; (try simp only [Act.put, lsT, lsZ, lsS]); refine takeN 16 121 rfl rfl hHeld ?_; (try simp only [Act.put, lsT, lsZ, lsS]); refine takeN 17 122 rfl rfl hHeld ?_; (try simp only [Act.put, lsT, lsZ, lsS]); refine takeN 18 123 rfl rfl hHeld ?_; (try simp only [Act.put, lsT, lsZ, lsS]); refine takeY 19 124 rfl rfl (v := ?_) ?_ hHeld ?_
        rotate_left 1
        · (intro u hSw; (try dsimp only at hSw); clear hSw; go_simp; (try with_reducible rfl))
        (try simp only [Act.put, lsT, lsZ, lsS]); refine wpAnyH_done (by kernel_rfl) ?_ _; have hf := Lib.hid (show e0.chk = 130 by rw [hchk.out, hok4.out, show pb = false by rw [← hpbh.out]; exact all_fail hlt (by rw [hf2.out]; rfl)]; rfl); go_wp2; go_ret; exact ⟨by rw [hf.out]; rfl, hB1.trans ((hb0.out.trans (hb.mono hb0.out.size)).mono hsz.out)⟩
      · have hb0 := Lib.hid hb; clear hb; have z9h := Lib.hid z1; have k9h := Lib.hid hkb; clear z1 hkb; go_wp2_with fail; have hb := below_refl_dr wr; refine wp_region_held_drew (S := fun u => Below wr.heap.size wr u) (by kernel_rfl) hb (fun hHeld => ?_); refine takeY 0 105 rfl rfl (v := ?_) ?_ hHeld ?_
        rotate_left 1
        · (intro u hSw; (try dsimp only at hSw); clear hSw; go_simp; (try with_reducible rfl))
        (try simp only [Act.put, lsT, lsZ, lsS]); refine takeY 1 106 rfl rfl (v := ?_) ?_ hHeld ?_
        rotate_left 1
        · (intro u hSw; (try dsimp only at hSw); have q := (hAA.out u hSw).at 6 rfl; clear hSw; go_simp; (try with_reducible rfl))
        (try simp only [Act.put, lsT, lsZ, lsS]); refine takeY 2 107 rfl rfl (v := ?_) ?_ hHeld ?_
        rotate_left 1
        · (intro u hSw; (try dsimp only at hSw); clear hSw; go_simp; (try with_reducible rfl))
        (try simp only [Act.put, lsT, lsZ, lsS]); refine takeY 3 108 rfl rfl (v := ?_) ?_ hHeld ?_
        rotate_left 1
        · (intro u hSw; (try dsimp only at hSw); clear hSw; go_simp; (try with_reducible rfl))
        (try simp only [Act.put, lsT, lsZ, lsS]); refine takeY 4 109 rfl rfl (v := ?_) ?_ hHeld ?_
        rotate_left 1
        · (intro u hSw; (try dsimp only at hSw); obtain ⟨q0, q1, q2, q3, q4, q5, q6, q7, q8, q9, q10, q11⟩ := hcx.out u hSw; clear hSw; go_simp; (try with_reducible rfl))
        (try simp only [Act.put, lsT, lsZ, lsS]); refine wpAnyH_ready (rs := [5]) (by kernel_rfl) (by simp) ?_; refine AllReadyH.cons rfl (fun K hK => ?_) AllReadyH.nil; go_simp; go_at_call 65; have hc := dmayput_any (PtT.mk q id (PT.mk key dur red mid (VT.mk uk un us (.slice uka uks.length ukc) (.slice ula ul.length ulc) uks ul)) body) P _ (hRR.out _ hb) hqs.out; rw [hmh.out, PtT.arg_mk] at hc; refine hc.mono ?_; rintro e wn ⟨rfl, hBn⟩; clear hc; have hb := hb.trans (hBn.mono hb.size); refine hK.out _ _ hb (fun hHeld => ?_); clear hK K; (try simp only [Act.put, lsT, lsZ, lsS]); refine takeY 6 111 rfl rfl (v := ?_) ?_ hHeld ?_
        rotate_left 1
        · (intro u hSw; (try dsimp only at hSw); clear hSw; go_simp; (try with_reducible rfl))
        (try simp only [Act.put, lsT, lsZ, lsS]); refine takeY 7 112 rfl rfl (v := ?_) ?_ hHeld ?_
        rotate_left 1
        · (intro u hSw; (try dsimp only at hSw); clear hSw; go_simp; (try with_reducible rfl))
        (try simp only [Act.put, lsT, lsZ, lsS]); refine takeY 8 113 rfl rfl (v := ?_) ?_ hHeld ?_
        rotate_left 1
        · (intro u hSw; (try dsimp only at hSw); clear hSw; go_simp; (try with_reducible rfl))
        (try simp only [Act.put, lsT, lsZ, lsS]); refine takeY 9 114 rfl rfl (v := ?_) ?_ hHeld ?_
        rotate_left 1
        · (intro u hSw; (try dsimp only at hSw); have q := (hAA.out u hSw).at 6 rfl; clear hSw; go_simp; (try with_reducible rfl))
        (try simp only [Act.put, lsT, lsZ, lsS]); refine takeY 10 115 rfl rfl (v := ?_) ?_ hHeld ?_
        rotate_left 1
        · (intro u hSw; (try dsimp only at hSw); clear hSw; go_simp; (try with_reducible rfl))
        (try simp only [Act.put, lsT, lsZ, lsS]); refine takeY 11 116 rfl rfl (v := ?_) ?_ hHeld ?_
        rotate_left 1
        · (intro u hSw; (try dsimp only at hSw); clear hSw; go_simp; (try with_reducible rfl))
        (try simp only [Act.put, lsT, lsZ, lsS]); refine takeY 12 117 rfl rfl (v := ?_) ?_ hHeld ?_
        rotate_left 1
        · (intro u hSw; (try dsimp only at hSw); clear hSw; go_simp; (try with_reducible rfl))
        (try simp only [Act.put, lsT, lsZ, lsS]); refine takeY 13 118 rfl rfl (v := ?_) ?_ hHeld ?_
        rotate_left 1
        · (intro u hSw; (try dsimp only at hSw); obtain ⟨q0, q1, q2, q3, q4, q5, q6, q7, q8, q9, q10, q11⟩ := hcx.out u hSw; clear hSw; go_simp; (try with_reducible rfl))
        (try simp only [Act.put, lsT, lsZ, lsS]); refine takeY 14 119 rfl rfl (v := ?_) ?_ hHeld ?_
        rotate_left 1
        · (intro u hSw; (try dsimp only at hSw); clear hSw; go_simp; (try with_reducible rfl))
        (try simp only [Act.put, lsT, lsZ, lsS]); refine takeY 15 120 rfl rfl (v := ?_) ?_ hHeld ?_
        rotate_left 1
        · (intro u hSw; (try dsimp only at hSw); clear hSw; go_simp; (try with_reducible rfl))
        (try simp only [Act.put, lsT, lsZ, lsS]); refine takeY 16 121 rfl rfl (v := ?_) ?_ hHeld ?_
        rotate_left 1
        · (intro u hSw; (try dsimp only at hSw); have q := (hAA.out u hSw).at 0 rfl; clear hSw; go_simp; (try with_reducible rfl))
        (try simp only [Act.put, lsT, lsZ, lsS]); refine takeY 17 122 rfl rfl (v := ?_) ?_ hHeld ?_
        rotate_left 1
        · (intro u hSw; (try dsimp only at hSw); clear hSw; go_simp; (try with_reducible rfl))
        (try simp only [Act.put, lsT, lsZ, lsS]); refine takeY 18 123 rfl rfl (v := ?_) ?_ hHeld ?_
        rotate_left 1
        · (intro u hSw; (try dsimp only at hSw); clear hSw; go_simp; (try with_reducible rfl))
        (try simp only [Act.put, lsT, lsZ, lsS]); refine takeY 19 124 rfl rfl (v := ?_) ?_ hHeld ?_
        rotate_left 1
        · (intro u hSw; (try dsimp only at hSw); clear hSw; go_simp; (try with_reducible rfl))
        (try simp only [Act.put, lsT, lsZ, lsS]); refine wpAnyH_done (by kernel_rfl) ?_ _; have z9 := z9h.out; have k9 := k9h.out; simp only [z9, k9]; clear z9 k9; cases zb <;> cases kb <;> simp only [Bool.false_beq, Bool.true_beq, Bool.not_not, Bool.not_true, Bool.not_false]
        · skip; have hall2 := Lib.hid (all_succ hlt hall.out (by rw [hf2.out]; rfl)); go_wp2; go_roundw
          case rel => exact ⟨k + 1, by omega, by go_num, hall2, hb0.out.trans (hb.mono hb0.out.size)⟩
          case measure => simp [intOf]; omega
        · skip; have hf := Lib.hid (show e0.chk = 130 by rw [hchk.out, hok4.out, show pb = false by rw [← hpbh.out]; exact all_fail hlt (by rw [hf2.out]; rfl)]; rfl); go_wp2; go_ret; exact ⟨by rw [hf.out]; rfl, hB1.trans ((hb0.out.trans (hb.mono hb0.out.size)).mono hsz.out)⟩
        · skip; have hf := Lib.hid (show e0.chk = 130 by rw [hchk.out, hok4.out, show pb = false by rw [← hpbh.out]; exact all_fail hlt (by rw [hf2.out]; rfl)]; rfl); go_wp2; go_ret; exact ⟨by rw [hf.out]; rfl, hB1.trans ((hb0.out.trans (hb.mono hb0.out.size)).mono hsz.out)⟩
        · skip; have hall2 := Lib.hid (all_succ hlt hall.out (by rw [hf2.out]; rfl)); go_wp2; go_roundw
          case rel => exact ⟨k + 1, by omega, by go_num, hall2, hb0.out.trans (hb.mono hb0.out.size)⟩
          case measure => simp [intOf]; omega
    · obtain rfl : k = puts.length := by omega
      have hpt := Lib.hid (show pb = true by rw [← hpbh.out]; have h := hall.out; rwa [List.take_length] at h); go_wp2_with fail; go_loopw [9] (fun s9 wr => ∃ k : Nat, k ≤ takes.length ∧ s9 = .int .i64 (k : Int) ∧ Hid ((takes.take k).all Rf.okB = true) ∧ Below W1.heap.size W1 wr) (fun s9 _ => takes.length - (intOf s9).toNat)
      case atStart => exact ⟨0, by omega, rfl, Lib.hid (by simp), hb⟩
      case round =>
        clear hb hall A a6; obtain ⟨k, hk, rfl, hall, hb⟩ := hrel; have A := hAh.out _ hb; have a7 := A.at 7 rfl; by_cases hlt : k < takes.length
        · have h1 : (k : Int) < (takes.length : Int) := by omega
          have l1 : (takes.length : Int) ≤ 100 := by have := hth.out; omega
          have hLr : Slc rfEnc 2 wr (.slice ta takes.length tc) takes := (hRh.out _ hb).s; obtain ⟨g0, off, rfl⟩ := hLr.addrB hlt; obtain ⟨q, i, hx, e8, e9⟩ := rf_elem hLr hlt; have hqs := Lib.hid (show (q.size : Int) < 4611686018427387904 by have h := hzt.out takes[k] (List.getElem_mem hlt); rw [hx] at h; exact h); obtain ⟨qb, hqb⟩ : ∃ b, qn q = b := ⟨_, rfl⟩
          obtain ⟨ib, hib⟩ : ∃ b, idOk i = b := ⟨_, rfl⟩
          have hf2 := Lib.hid (show Rf.okB takes[k] = (qb && ib) by rw [hx, ← hqb, ← hib]; rfl); have hqbh := Lib.hid hqb; have hibh := Lib.hid hib; have hAA := Lib.hid (fun (v : World) (h : Below wr.heap.size wr v) => A.pure h)
          have hcx := Lib.hid (fun (v : World) (h : Below wr.heap.size wr v) => show v.cell? ⟨g0, off + k * 2, none⟩ = some (.string q) ∧ v.cell? ⟨g0, off + k * 2 + 1, none⟩ = some (.int .u64 i) from by
            have hL9 : Slc rfEnc 2 v (.slice (some ⟨g0, off, none⟩) takes.length tc) takes := hLr.pure h; have hc := fun j u (hu : (rfEnc takes[k])[j]? = some u) => hL9.get k hlt j u hu
            rw [hx] at hc
            exact ⟨hc 0 _ rfl, hc 1 _ rfl⟩)
          clear hx hqb hib hLr; cases qb
          · skip; have hf := Lib.hid (show e0.chk = 130 by rw [hchk.out, hok4.out, show tb = false by rw [← htbh.out]; exact all_fail hlt (by rw [hf2.out]; rfl)]; simp); go_wp2_with (first | (go_at_call 62; (with_reducible refine (dqname_any _ q hqs.out).mono ?_); rintro e w2 ⟨he, hB2⟩; rw [hqbh.out] at he; subst he; have hb2 := hb.trans (hB2.mono hb.size); have A2 := hAA.out _ hB2; have m7 := A2.at 7 rfl; obtain ⟨x0, x1⟩ := hcx.out _ hB2) | (go_at_call 63; (with_reducible refine (did_any _ i).mono ?_); rintro e w3 ⟨he, rfl⟩; rw [hibh.out] at he; subst he)); go_ret; exact ⟨by rw [hf.out]; rfl, hB1.trans (hb2.mono hsz.out)⟩
          cases ib
          · skip; have hf := Lib.hid (show e0.chk = 130 by rw [hchk.out, hok4.out, show tb = false by rw [← htbh.out]; exact all_fail hlt (by rw [hf2.out]; rfl)]; simp); go_wp2_with (first | (go_at_call 62; (with_reducible refine (dqname_any _ q hqs.out).mono ?_); rintro e w2 ⟨he, hB2⟩; rw [hqbh.out] at he; subst he; have hb2 := hb.trans (hB2.mono hb.size); have A2 := hAA.out _ hB2; have m7 := A2.at 7 rfl; obtain ⟨x0, x1⟩ := hcx.out _ hB2) | (go_at_call 63; (with_reducible refine (did_any _ i).mono ?_); rintro e w3 ⟨he, rfl⟩; rw [hibh.out] at he; subst he)); go_ret; exact ⟨by rw [hf.out]; rfl, hB1.trans (hb2.mono hsz.out)⟩
          have hall2 := Lib.hid (all_succ hlt hall.out (by rw [hf2.out]; rfl)); go_wp2_with (first | (go_at_call 62; (with_reducible refine (dqname_any _ q hqs.out).mono ?_); rintro e w2 ⟨he, hB2⟩; rw [hqbh.out] at he; subst he; have hb2 := hb.trans (hB2.mono hb.size); have A2 := hAA.out _ hB2; have m7 := A2.at 7 rfl; obtain ⟨x0, x1⟩ := hcx.out _ hB2) | (go_at_call 63; (with_reducible refine (did_any _ i).mono ?_); rintro e w3 ⟨he, rfl⟩; rw [hibh.out] at he; subst he)); go_roundw
          case rel => exact ⟨k + 1, by omega, by go_num, hall2, hb2⟩
          case measure => simp [intOf]; omega
        · obtain rfl : k = takes.length := by omega
          have hf := Lib.hid (show e0.chk = 0 by rw [hchk.out, hok4.out, hpt.out, show tb = true by rw [← htbh.out]; have h := hall.out; rwa [List.take_length] at h]; rfl); go_wp2; go_ret; exact ⟨by rw [hf.out]; rfl, hB1.trans (hb.mono hsz.out)⟩
end Go.Proofs.YtflglpbjapgciaaGreatDoor
