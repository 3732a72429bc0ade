/- posthouseref17.Into, From, Queues. Conditions: contracts of posthouseref13's calls; sizes. Written by gen_wkN.py. (Texts joined.) -/
import Derived.Test.YtlonokcaddpniaaGreatDoorWJ
import Derived.Deep.QuietTactic
import Derived.BigQuiet
import Derived.Test.YtlonokcaddpniaaGreatDoorWV
set_option linter.unusedSimpArgs false
set_option linter.unusedVariables false
namespace Go.Proofs.YtlonokcaddpniaaGreatDoor
open Go.RowKit
theorem below_dn15 {B : Nat} {a w : World} (h : Below B a w) (n : Nat) : Below B a (w.drewN n) := ⟨h.os, h.tape, h.output, h.size, h.block⟩
set_option maxHeartbeats 1600000 in
theorem same15_any (w : World) (a b : Value) (A B : List Int) (ha : Slc u64Enc 1 w a A) (hb : Slc u64Enc 1 w b B) :
    Calls Tryz.prog 29 #[a, b] w fun e w' => e = .returned (.bool (decide (A = B))) ∧ Below w.heap.size w w' := by
  obtain ⟨aa, acap, rfl, hm⟩ := ha.len; obtain ⟨ba, bcap, rfl, hmb⟩ := hb.len; unfold maxLen at hm hmb; by_cases hl : A.length = B.length
  · have hl' := Lib.hid hl; rw [← hl] at hb ⊢; go_enter Tryz.func29, Tryz.ntmps29; go_wp2; go_loopw [5] (fun s5 wr => ∃ k : Nat, k ≤ A.length ∧ s5 = .int .i64 k ∧ A.take k = B.take k ∧ ∃ n, wr = w.drewN n) (fun s5 _ => A.length - (intOf s5).toNat)
    case atStart => exact ⟨0, by omega, rfl, by simp, 0, rfl⟩
    case round =>
      obtain ⟨k, hk, rfl, hno, n, rfl⟩ := hrel; have hno' := Lib.hid hno; clear hno; by_cases hlt : k < A.length
      · have hltB : k < B.length := by omega
        obtain ⟨ga, oa, rfl, c0⟩ := ha.load k hlt; obtain ⟨gb, ob, rfl, d0⟩ := hb.load k hltB; by_cases hq : A[k] = B[k]
        · have hq' := Lib.hid hq; rw [← hq] at d0; clear hq; go_wp2; go_quiet (fail); go_wp2; go_roundw
          case rel => exact ⟨k + 1, by omega, by go_num, by rw [List.take_succ_eq_append_getElem hlt, List.take_succ_eq_append_getElem hltB, hno'.out, hq'.out], _, rfl⟩
          case measure => simp [intOf]; omega
        · have hd : decide (A = B) = false := decide_eq_false (fun e => hq (by subst e; rfl)); have hd := Lib.hid hd; go_wp2; go_quiet (fail); go_wp2; go_ret; exact ⟨by rw [hd.out]; rfl, below_dn15 (below_dn15 (Below.refl _ _) _) _⟩
      · have : k = A.length := by omega
        subst this; have he := hno'.out; rw [List.take_length, hl'.out, List.take_length] at he; have hd := Lib.hid (decide_eq_true he); clear he; go_wp2; go_ret; exact ⟨by rw [hd.out]; rfl, below_dn15 (Below.refl _ _) _⟩
  · have hd : decide (A = B) = false := decide_eq_false (fun e => hl (by subst e; rfl)); rw [hd]; go_enter Tryz.func29, Tryz.ntmps29; go_wp2; go_ret; exact ⟨rfl, Below.refl _ _⟩
/-- A name among sorted ones, by its place. -/
theorem insN_at : ∀ (l : List ByteArray) (x : ByteArray) (k : Nat), k ≤ l.length → (∀ j, (h : j < l.length) → j < k → l[j].toList < x.toList) → (∀ h : k < l.length, ¬ l[k].toList < x.toList) →
    insN l x = if ∃ h : k < l.length, l[k] = x then l else l.take k ++ x :: l.drop k
  | [], x, k, hk, h1, h2 => by simp [insN]
  | y :: l, x, 0, hk, h1, h2 => by
    have h3 : ¬ y.toList < x.toList := h2 (by simp); unfold insN; by_cases e : y.toList = x.toList
    · rw [if_pos e, if_pos ⟨by simp, toList_inj e⟩]
    · rw [if_neg e, if_neg h3, if_neg (by rintro ⟨_, q⟩; exact e (by rw [← q]; rfl))]; rfl
  | y :: l, x, k + 1, hk, h1, h2 => by
    have h3 : y.toList < x.toList := h1 0 (by simp) (by omega); have h4 : ¬ y.toList = x.toList := fun e => by rw [e] at h3; exact List.lt_irrefl _ h3
    have ih := insN_at l x k (by simpa using hk) (fun j h hj => h1 (j + 1) (by simpa using h) (by omega)) (fun h => h2 (by simpa using h)); unfold insN; rw [if_neg h4, if_pos h3, ih]; by_cases e : ∃ h : k < l.length, l[k] = x
    · rw [if_pos e, if_pos (by obtain ⟨h, q⟩ := e; exact ⟨by simpa using h, q⟩)]
    · rw [if_neg e, if_neg (by rintro ⟨h, q⟩; exact e ⟨by simpa using h, q⟩)]; rfl
theorem bless_iff : ∀ (x y : List UInt8), Op.bytesLess x y = decide (x < y)
  | [], [] => by simp [Op.bytesLess]
  | _ :: _, [] => by simp [Op.bytesLess]
  | [], _ :: _ => by simp [Op.bytesLess]
  | a :: x, b :: y => by
    rw [Op.bytesLess, bless_iff x y]; simp only [List.cons_lt_cons_iff]; by_cases h1 : a < b <;> by_cases h2 : a = b <;> by_cases h3 : x < y <;> simp [h1, h2, h3]
theorem sortN_step (N : List ByteArray) (k : Nat) (h : k < N.length) : sortN (N.take (k + 1)) = insN (sortN (N.take k)) N[k] := by
  unfold sortN; rw [List.take_succ_eq_append_getElem h, List.foldl_append]; rfl
theorem insN_len : ∀ (l : List ByteArray) (x : ByteArray), (insN l x).length ≤ l.length + 1
  | [], x => by simp [insN]
  | y :: l, x => by
    unfold insN; split
    · simp
    · split
      · have := insN_len l x; simp only [List.length_cons]; omega
      · simp
theorem sortN_len (N : List ByteArray) : ∀ k, k ≤ N.length → (sortN (N.take k)).length ≤ k
  | 0, _ => by simp [sortN]
  | k + 1, h => by rw [sortN_step N k h]; have := insN_len (sortN (N.take k)) N[k]; have := sortN_len N k (by omega); omega
set_option maxRecDepth 100000 in
set_option maxHeartbeats 6400000 in
theorem dinto_any (hMp : MpOk) (hDq : DqOk) (hDi : DiOk) (t : WkT) (P : Nat → Prop) (w : World) (hR : WkRd P w t) (hs : SmEn t.en) (x : ByteArray) : Calls Tryz.prog 28 #[t.arg, .string x] w fun e w' => e = .returned (.int .i64 (t.w.into x : Nat)) ∧ Below w.heap.size w w' := by
  obtain ⟨c, hc⟩ : ∃ c, t.w.chk = c := ⟨_, rfl⟩
  have hokc := wk_okc (w := t.w); have hw1 := fun (u : World) (h : Below w.heap.size w u) => dcheck17_any hMp hDq hDi t P u (hR.pure h) (sm_qp hs) (sm_qt hs)
  rw [hc] at hw1 hokc; obtain ⟨pa, pc, ta, tc, puts, takes, rfl, hpl, htl⟩ := wkrd_open hR; rw [WkT.arg_mk] at hw1 ⊢; have hpi : (puts.length : Int) ≤ 9223372036854775807 := by unfold maxLen at hpl; omega
  have hti : (takes.length : Int) ≤ 9223372036854775807 := by unfold maxLen at htl; omega
  have hw1h := Lib.hid hw1; have hRh := Lib.hid hR; have hokh := Lib.hid hokc; have hch := Lib.hid hc; clear hw1 hR hc hpl htl hokc hs; have hB1 := (Below.refl w.heap.size w).alloc (Nat.le_refl _) (.cells #[.slice pa puts.length pc, .slice ta takes.length tc] 25); have A1 := Blk.new w [.slice pa puts.length pc, .slice ta takes.length tc] 25; have a0 := A1.at 0 rfl; have a1 := A1.at 1 rfl
  have hi := Lib.hid (show (WkT.mk (.slice pa puts.length pc) (.slice ta takes.length tc) puts takes).w.into x = if c = 0 then puts.countP (fun p => p.q.toList == x.toList) else 0 by
    unfold Wk.into; rw [hokh.out]; by_cases h : c = 0
    · rw [decide_eq_true h, if_pos h, if_neg (by simp)]; show (puts.map PtT.p).countP _ = _
      rw [List.countP_map]; rfl
    · rw [decide_eq_false h, if_neg h, if_pos rfl])
  by_cases hc0 : c = 0
  rotate_left 1
  · have hc1 : (c == 0) = false := beq_eq_false_iff_ne.2 hc0; rw [hi.out, if_neg hc0]; go_enter Tryz.func28, Tryz.ntmps28; go_wp2; go_loopw [5, 6] (fun s5 s6 wr => s5 = .int .i64 0 ∧ s6 = .int .i64 0 ∧ Below w.heap.size w wr ∧ Blk wr w.heap.size [.slice pa puts.length pc, .slice ta takes.length tc]) (fun _ _ _ => 0)
    case atStart => exact ⟨rfl, rfl, hB1, A1⟩
    case round =>
      obtain ⟨rfl, rfl, hB, A⟩ := hrel; clear a0 a1 hB1 A1; have b0 := A.at 0 rfl; have b1 := A.at 1 rfl; by_cases h0 : 0 < puts.length
      · go_wp2_with (go_at_call 17; (with_reducible refine (hw1h.out _ hB).mono ?_); rintro e w2 ⟨rfl, hB2⟩; have hT2 := hB.trans (hB2.mono hB.size)); go_ret; exact ⟨rfl, hT2⟩
      · go_wp2; go_ret; exact ⟨rfl, hB⟩
  subst hc0; rw [hi.out, if_pos rfl]; have h100 := Lib.hid (wk_len100 (t := (WkT.mk (.slice pa puts.length pc) (.slice ta takes.length tc) puts takes)) (by rw [hokh.out]; rfl)).2; clear hi; go_enter Tryz.func28, Tryz.ntmps28; go_wp2; go_loopw [5, 6] (fun s5 s6 wr => ∃ k : Nat, k ≤ puts.length ∧ s5 = .int .i64 ((puts.take k).countP (fun p => p.q.toList == x.toList) : Nat) ∧ s6 = .int .i64 k ∧ Below w.heap.size w wr ∧ Blk wr w.heap.size [.slice pa puts.length pc, .slice ta takes.length tc]) (fun _ s6 _ => puts.length - (intOf s6).toNat)
  case atStart => exact ⟨0, Nat.zero_le _, by simp, rfl, hB1, A1⟩
  case round =>
    obtain ⟨k, hk, rfl, rfl, hB, A⟩ := hrel; clear a0 a1 hB1 A1; have b0 := A.at 0 rfl; have b1 := A.at 1 rfl; by_cases hkt : k < puts.length
    · obtain ⟨N0, hN0⟩ : ∃ N : Nat, N = 0 := ⟨0, rfl⟩
      have hkti : (k : Int) < (puts.length : Int) := by omega
      obtain ⟨n, hn⟩ : ∃ n : Nat, (puts.take k).countP (fun p => p.q.toList == x.toList) = n := ⟨_, rfl⟩
      have hnl : n ≤ k := by rw [← hn]; exact Nat.le_trans List.countP_le_length (by rw [List.length_take]; omega)
      have hst := countP_step (fun (p : PtT) => p.q.toList == x.toList) puts k hkt; rw [hn] at hst ⊢; have hsth := Lib.hid hst; clear hst hn hN0; go_upto_region 5 with (go_at_call 17; (with_reducible refine (hw1h.out _ hB).mono ?_); rintro e w2 ⟨rfl, hB2⟩; have hT2 := hB.trans (hB2.mono hB.size); have A2 := A.pure hB2); clear b0 b1; have hRr := hRh.out.pure hT2; have hSl : Slc ptEnc 12 w2 (.slice pa puts.length pc) puts := hRr.p; have d0 := A2.at 0 rfl; have hRd := hRr.r puts[k] (List.getElem_mem hkt); obtain ⟨g, off, rfl⟩ := hSl.addrB hkt; obtain ⟨q, id, key, dur, red, mid, uk, un, us, uka, ukc, ula, ulc, uks, ul, body, hx, c0, -⟩ := pt_elem hSl hkt hRd; have hst := hsth.out; rw [hx] at hst; dsimp only at hst; obtain ⟨b, hb⟩ : ∃ b, (q.toList == x.toList) = b := ⟨_, rfl⟩
      rw [hb] at hst; have hst2 := Lib.hid hst; clear hst hx hRd hSl hRr hsth; cases b
      all_goals
        go_wp2; go_roundw
        case rel => exact ⟨k + 1, by omega, by rw [hst2.out]; simp, by go_num, hT2, A2⟩
        case measure => simp [intOf]; omega
    · obtain rfl : k = puts.length := by omega
      rw [List.take_length]; go_wp2; go_ret; exact ⟨rfl, hB⟩
set_option maxRecDepth 100000 in
set_option maxHeartbeats 6400000 in
theorem dfrom_any (hMp : MpOk) (hDq : DqOk) (hDi : DiOk) (t : WkT) (P : Nat → Prop) (w : World) (hR : WkRd P w t) (hs : SmEn t.en) (x : ByteArray) : Calls Tryz.prog 31 #[t.arg, .string x] w fun e w' => ∃ v, e = .returned v ∧ Own w.heap.size 26 1 u64Enc w' v (t.w.fromL x) ∧ Below w.heap.size w w' := by
  obtain ⟨c, hc⟩ : ∃ c, t.w.chk = c := ⟨_, rfl⟩
  have hokc := wk_okc (w := t.w); have hw1 := fun (u : World) (h : Below w.heap.size w u) => dcheck17_any hMp hDq hDi t P u (hR.pure h) (sm_qp hs) (sm_qt hs)
  rw [hc] at hw1 hokc; obtain ⟨pa, pc, ta, tc, puts, takes, rfl, hpl, htl⟩ := wkrd_open hR; rw [WkT.arg_mk] at hw1 ⊢; have hpi : (puts.length : Int) ≤ 9223372036854775807 := by unfold maxLen at hpl; omega
  have hti : (takes.length : Int) ≤ 9223372036854775807 := by unfold maxLen at htl; omega
  have hw1h := Lib.hid hw1; have hRh := Lib.hid hR; have hokh := Lib.hid hokc; have hch := Lib.hid hc; clear hw1 hR hc hpl htl hokc hs; have hB1 := (Below.refl w.heap.size w).alloc (Nat.le_refl _) (.cells #[.slice pa puts.length pc, .slice ta takes.length tc] 25); have A1 := Blk.new w [.slice pa puts.length pc, .slice ta takes.length tc] 25; have a0 := A1.at 0 rfl; have a1 := A1.at 1 rfl
  have hi := Lib.hid (show (WkT.mk (.slice pa puts.length pc) (.slice ta takes.length tc) puts takes).w.fromL x = if c = 0 then (takes.filter (fun r => r.q.toList == x.toList)).map Rf.id else [] by
    unfold Wk.fromL; rw [hokh.out]; by_cases h : c = 0
    · rw [decide_eq_true h, if_pos h, if_neg (by simp)]; rfl
    · rw [decide_eq_false h, if_neg h, if_pos rfl])
  by_cases hc0 : c = 0
  rotate_left 1
  · have hc1 : (c == 0) = false := beq_eq_false_iff_ne.2 hc0; rw [hi.out, if_neg hc0]; go_enter Tryz.func31, Tryz.ntmps31; go_wp2; go_loopw [5, 6] (fun s5 s6 wr => s5 = .slice none 0 0 ∧ s6 = .int .i64 0 ∧ Below w.heap.size w wr ∧ Blk wr w.heap.size [.slice pa puts.length pc, .slice ta takes.length tc]) (fun _ _ _ => 0)
    case atStart => exact ⟨rfl, rfl, hB1, A1⟩
    case round =>
      obtain ⟨rfl, rfl, hB, A⟩ := hrel; clear a0 a1 hB1 A1; have b0 := A.at 0 rfl; have b1 := A.at 1 rfl; by_cases h0 : 0 < takes.length
      · go_wp2_with (go_at_call 17; (with_reducible refine (hw1h.out _ hB).mono ?_); rintro e w2 ⟨rfl, hB2⟩; have hT2 := hB.trans (hB2.mono hB.size)); go_ret; exact ⟨_, rfl, Own.nil, hT2⟩
      · go_wp2; go_ret; exact ⟨_, rfl, Own.nil, hB⟩
  subst hc0; rw [hi.out, if_pos rfl]; have h100 := Lib.hid (wk_len100 (t := (WkT.mk (.slice pa puts.length pc) (.slice ta takes.length tc) puts takes)) (by rw [hokh.out]; rfl)).2; clear hi; go_enter Tryz.func31, Tryz.ntmps31; go_wp2; go_loopw [5, 6] (fun s5 s6 wr => ∃ k : Nat, k ≤ takes.length ∧ s6 = .int .i64 k ∧ Below w.heap.size w wr ∧ Own (w.heap.size + 1) 26 1 u64Enc wr s5 (((takes.take k).filter (fun r => r.q.toList == x.toList)).map Rf.id) ∧ Blk wr w.heap.size [.slice pa puts.length pc, .slice ta takes.length tc]) (fun _ s6 _ => takes.length - (intOf s6).toNat)
  case atStart => exact ⟨0, Nat.zero_le _, rfl, hB1, by simp only [List.take_zero, List.filter_nil, List.map_nil]; exact Own.nil, A1⟩
  case round =>
    obtain ⟨k, hk, rfl, hB, hO, A⟩ := hrel; clear a0 a1 hB1 A1; have b0 := A.at 0 rfl; have b1 := A.at 1 rfl; by_cases hkt : k < takes.length
    · obtain ⟨N0, hN0⟩ : ∃ N : Nat, N = 0 := ⟨0, rfl⟩
      have hkti : (k : Int) < (takes.length : Int) := by omega
      obtain ⟨F, hF⟩ : ∃ F, (takes.take k).filter (fun r => r.q.toList == x.toList) = F := ⟨_, rfl⟩
      have hFl : F.length ≤ k := by rw [← hF]; exact Nat.le_trans (List.length_filter_le _ _) (by rw [List.length_take]; omega)
      have hst := filter_step (fun (p : Rf) => p.q.toList == x.toList) takes k hkt; rw [hF] at hst hO; have hsth := Lib.hid hst; have hOh := Lib.hid hO; have hFl2 := Lib.hid hFl; clear hst hF hO hFl hN0; go_upto_region 5 with (go_at_call 17; (with_reducible refine (hw1h.out _ hB).mono ?_); rintro e w2 ⟨rfl, hB2⟩; have hT2 := hB.trans (hB2.mono hB.size); have A2 := A.pure hB2); clear b0 b1; have hRr := hRh.out.pure hT2; have hSl : Slc rfEnc 2 w2 (.slice ta takes.length tc) takes := hRr.s; have d1 := A2.at 1 rfl; obtain ⟨g, off, rfl⟩ := hSl.addrB hkt; obtain ⟨q, id, hx, c0, c1⟩ := rf_elem hSl hkt; have hst := hsth.out; rw [hx] at hst; dsimp only at hst; obtain ⟨b, hb⟩ : ∃ b, (q.toList == x.toList) = b := ⟨_, rfl⟩
      rw [hb] at hst; have hst2 := Lib.hid hst; have hOa := hOh.out.pure hB2; clear hst hx hSl hRr hsth hOh; cases b
      · go_wp2; go_roundw
        case rel => exact ⟨k + 1, by omega, by go_num, hT2, by rw [hst2.out]; simpa using hOa, A2⟩
        case measure => simp [intOf]; omega
      · have N := Blk.newE w2 [.int .u64 id] 26 w2.heap.size rfl; have hOb := hOa.alloc (.cells #[.int .u64 id] 26); have hB4 := hT2.alloc hT2.size (.cells #[.int .u64 id] 26); have A4 := A2.alloc (.cells #[.int .u64 id] 26); have hle := hB4.size; have hlt2 := A2.lt; have hkk : k ≤ 9223372036854775807 := by omega
        go_wp2_with (at_builtin; refine wpList_app1 (base := w.heap.size + 1) rfl (.tmp 27) (.tmp 34) 70 26 rfl elem_u64W u64Enc_len u64Enc_one _ (F.map Rf.id) rfl hOb w2.heap.size 1 id rfl (fun j v hv => (N.cell j).trans hv) (by have := hFl2.out; have := h100.out; simp; omega) (by have := hFl2.out; have := h100.out; unfold maxLen; simp; omega) (by simp; omega) ?_; intro g' cap' w5 hO5 hg5 _); have hB5 := hB4.grown hg5 hle (fun k e => Nat.le_of_succ_le (hOb.ge e)); have A5 := A4.upd (Upd.grown (S := fun k => Value.ownBlock _ = some k) hg5 (fun k e => e)) (fun e => by have := hOb.ge e; omega); have hO6 := Lib.hid hO5; clear hO5 hOb hOa N; go_roundw
        case rel => exact ⟨k + 1, by omega, by go_num, hB5, by rw [hst2.out]; simpa using hO6.out, A5⟩
        case measure => simp [intOf]; omega
    · obtain rfl : k = takes.length := by omega
      rw [List.take_length] at hO; go_wp2; go_ret; exact ⟨_, rfl, hO.rebase (fun k hk => Nat.le_of_succ_le (hO.ge hk)), hB⟩
set_option maxRecDepth 100000 in
set_option maxHeartbeats 6400000 in
theorem dqueues_any (hMp : MpOk) (hDq : DqOk) (hDi : DiOk) (t : WkT) (P : Nat → Prop) (w : World) (hR : WkRd P w t) (hs : SmEn t.en) : Calls Tryz.prog 26 #[t.arg] w fun e w' => ∃ v, e = .returned v ∧ Own w.heap.size 9 1 strEnc w' v t.w.queues ∧ Below w.heap.size w w' := by
  obtain ⟨c, hc⟩ : ∃ c, t.w.chk = c := ⟨_, rfl⟩
  have hokc := wk_okc (w := t.w); have hw1 := fun (u : World) (h : Below w.heap.size w u) => dcheck17_any hMp hDq hDi t P u (hR.pure h) (sm_qp hs) (sm_qt hs)
  rw [hc] at hw1 hokc; obtain ⟨pa, pc, ta, tc, puts, takes, rfl, hpl, htl⟩ := wkrd_open hR; rw [WkT.arg_mk] at hw1 ⊢; have hpi : (puts.length : Int) ≤ 9223372036854775807 := by unfold maxLen at hpl; omega
  have hti : (takes.length : Int) ≤ 9223372036854775807 := by unfold maxLen at htl; omega
  have hw1h := Lib.hid hw1; have hRh := Lib.hid hR; have hokh := Lib.hid hokc; have hch := Lib.hid hc; clear hw1 hR hc hpl htl hokc hs; have hB1 := (Below.refl w.heap.size w).alloc (Nat.le_refl _) (.cells #[.slice pa puts.length pc, .slice ta takes.length tc] 25); have A1 := Blk.new w [.slice pa puts.length pc, .slice ta takes.length tc] 25; have a0 := A1.at 0 rfl; have a1 := A1.at 1 rfl; obtain ⟨Q, hQ⟩ : ∃ Q, (WkT.mk (.slice pa puts.length pc) (.slice ta takes.length tc) puts takes).w.queues = Q := ⟨_, rfl⟩
  have hQh := Lib.hid hQ; rw [hQ]; clear hQ; by_cases hc0 : c = 0
  rotate_left 1
  · have hc1 : (c != 0) = true := bne_iff_ne.2 hc0; go_enter Tryz.func26, Tryz.ntmps26; go_wp2_with (go_at_call 17; (with_reducible refine (hw1h.out _ hB1).mono ?_); rintro e w2 ⟨rfl, hB2⟩; have hT2 := hB1.trans (hB2.mono hB1.size)); go_ret; refine ⟨_, rfl, ?_, hT2⟩; rw [← hQh.out]; unfold Wk.queues; rw [if_pos (by rw [hokh.out]; exact decide_eq_false hc0)]; exact Own.nil
  subst hc0; have hok := Lib.hid (show (WkT.mk (.slice pa puts.length pc) (.slice ta takes.length tc) puts takes).w.okB = true by rw [hokh.out]; rfl); have h100 := wk_len100 (t := (WkT.mk (.slice pa puts.length pc) (.slice ta takes.length tc) puts takes)) hok.out; obtain ⟨N, hN⟩ : ∃ N, puts.map PtT.q ++ takes.map Rf.q = N := ⟨_, rfl⟩
  have hNl : N.length = puts.length + takes.length := by rw [← hN]; simp
  have hQe := Lib.hid (show Q = sortN N by rw [← hQh.out]; unfold Wk.queues; rw [if_neg (by rw [hok.out]; simp), ← hN]; unfold Wk.names; congr 2; show (puts.map PtT.p).map Pt.q = _; rw [List.map_map]; rfl); have hNp := Lib.hid (fun (k : Nat) (h : k < puts.length) (hN' : k < N.length) => show N[k] = puts[k].q by subst hN; rw [List.getElem_append_left (by simpa using h)]; simp); have hNt := Lib.hid (fun (k : Nat) (h1 : ¬ k < puts.length) (h2 : k - puts.length < takes.length) (hN' : k < N.length) => show N[k] = takes[k - puts.length].q by subst hN; rw [List.getElem_append_right (by simpa using Nat.le_of_not_lt h1)]; simp); have hp1 : puts.length ≤ 100 := h100.1; have hp2 : takes.length ≤ 100 := h100.2; have hNlh := Lib.hid hNl; clear h100 hN hNl hQh hokh hok; have hsum : (puts.length : Int) + (takes.length : Int) ≤ 9223372036854775807 := by omega
  have hsum0 : 0 ≤ (puts.length : Int) + (takes.length : Int) := by omega
  have zi := info_strs; go_enter Tryz.func26, Tryz.ntmps26; go_upto_region 4 with (go_at_call 17; (with_reducible refine (hw1h.out _ hB1).mono ?_); rintro e w2 ⟨rfl, hB2⟩; have hT2 := hB1.trans (hB2.mono hB1.size); have A2 := A1.pure hB2); have R2 := hRh.out.pure hT2; have hs2 := Lib.hid hT2.size; clear hRh hB1 A1 hB2 hw1h a0 a1; go_wp2; go_loopw [3, 4] (fun s3 s4 wr => ∃ k : Nat, k ≤ puts.length + takes.length ∧ s4 = .int .i64 k ∧ Below w2.heap.size w2 wr ∧ Blk wr w.heap.size [.slice pa puts.length pc, .slice ta takes.length tc] ∧ Own w2.heap.size 9 1 strEnc wr s3 (sortN (N.take k))) (fun _ s4 _ => puts.length + takes.length - (intOf s4).toNat)
  case atStart => exact ⟨0, Nat.zero_le _, rfl, Below.refl _ _, A2, by simp only [List.take_zero]; exact Own.nil⟩
  case round =>
    obtain ⟨k, hk, rfl, hB, A, hO⟩ := hrel; clear A2; have b0 := A.at 0 rfl; have b1 := A.at 1 rfl; have hki : (k : Int) ≤ 200 := by omega
    by_cases hkt : k < puts.length + takes.length
    · have hkti : (k : Int) < (puts.length : Int) + (takes.length : Int) := by omega
      have hkn : k < N.length := by rw [hNlh.out]; exact hkt
      obtain ⟨L, hL⟩ : ∃ L, sortN (N.take k) = L := ⟨_, rfl⟩
      have hLl : L.length ≤ k := by rw [← hL]; exact sortN_len N k (by omega)
      have hst := sortN_step N k hkn; rw [hL] at hO hst; obtain ⟨x, hx⟩ : ∃ x, N[k] = x := ⟨_, rfl⟩
      rw [hx] at hst; have hsth := Lib.hid hst; have hxh := Lib.hid hx; have hOh := Lib.hid hO; clear hst hx hL; have hRr := R2.pure hB; go_upto_if 26 with fail; go_cut [5] from 26 to 43 (fun s5 wx => s5 = .string x ∧ wx = wr)
      case first =>
        by_cases hkp : k < puts.length
        · have hSl : Slc ptEnc 12 wr (.slice pa puts.length pc) puts := hRr.p; have hRd := hRr.r puts[k] (List.getElem_mem hkp); have hxe := hNp.out k hkp hkn; rw [hxh.out] at hxe; obtain ⟨g, off, rfl⟩ := hSl.addrB hkp; obtain ⟨q, id, key, dur, red, mid, uk, un, us, uka, ukc, ula, ulc, uks, ul, body, hxx, c0, -⟩ := pt_elem hSl hkp hRd; rw [hxx] at hxe; obtain rfl : x = q := hxe; clear hxx hRd hSl hRr; have hkpi : (k : Int) < (puts.length : Int) := by omega
          go_wp2; go_meet; exact ⟨rfl, rfl⟩
        · have hkq : k - puts.length < takes.length := by omega
          have hSl : Slc rfEnc 2 wr (.slice ta takes.length tc) takes := hRr.s; have hxe := hNt.out k hkp hkq hkn; rw [hxh.out] at hxe; obtain ⟨g, off, rfl⟩ := hSl.addrB hkq; obtain ⟨q, id, hxx, c0, -⟩ := rf_elem hSl hkq; rw [hxx] at hxe; obtain rfl : x = q := hxe; have hkc : ((k : Int) - (puts.length : Int)) = ((k - puts.length : Nat) : Int) := by omega
          have hk0 : (0 : Int) ≤ (k : Int) - (puts.length : Int) := by omega
          have hk1 : (k : Int) - (puts.length : Int) < (takes.length : Int) := by omega
          have hk2 : ((k : Int) - (puts.length : Int)).toNat = k - puts.length := by omega
          have hkpi : ¬ (k : Int) < (puts.length : Int) := by omega
          clear hxx hSl hRr; have hkch := Lib.hid hkc; clear hkc; go_wp2; go_meet; exact ⟨rfl, rfl⟩
      case rest =>
      obtain ⟨rfl, rfl⟩ := hcut; clear hNp hNt hxh hRr hkn; obtain ⟨la, ln, lc, rfl⟩ := hOh.out.shape3; have hSs := hOh.out.slc strEnc_len; obtain rfl : ln = L.length := by obtain ⟨_, _, e, _⟩ := hSs.len; injection e
      have hLi : (L.length : Int) ≤ 200 := by omega
      clear hO; go_wp2; have hSh := Lib.hid hSs; clear hSs; go_loop [6] (fun s6 => ∃ j : Nat, j ≤ L.length ∧ s6 = .int .i64 j ∧ Hid (∀ i, (h : i < L.length) → i < j → L[i].toList < x.toList)) (fun s6 => L.length - (intOf s6).toNat)
      case atStart => exact ⟨0, Nat.zero_le _, rfl, Lib.hid (fun i h hi => absurd hi (by omega))⟩
      case round =>
        obtain ⟨j, hj, rfl, hlow⟩ := hrel; have hji : (j : Int) ≤ 200 := by omega
        by_cases hjl : j < L.length
        · have hjli : (j : Int) < (L.length : Int) := by omega
          have hSl := hSh.out; obtain ⟨g, off, rfl⟩ := hSl.addrB hjl; have c0 : wc.cell? ⟨g, off + j, none⟩ = some (.string L[j]) := (by simpa using hSl.get j hjl 0 _ rfl); clear hSl; cases hb : Op.bytesLess L[j].toList x.toList
          · have hnl : ¬ L[j].toList < x.toList := by rw [bless_iff] at hb; exact of_decide_eq_false hb
            have hins := Lib.hid (insN_at L x j hj hlow.out (fun _ => hnl)); clear hnl; by_cases he : L[j] = x
            · have het := Lib.hid he; have he2 : (L[j].toList == x.toList) = true := by rw [he]; simp
              clear he; go_wp2; go_roundw
              case rel => exact ⟨k + 1, by omega, by go_num, hB, A, by rw [hsth.out, hins.out, if_pos ⟨hjl, het.out⟩]; exact hOh.out⟩
              case measure => simp [intOf]; omega
            · have hen := Lib.hid he; have he2 : (L[j].toList == x.toList) = false := by rw [beq_eq_false_iff_ne]; exact fun q => hen.out (toList_inj q)
              clear he; have hlen1 : (L.take j).length ≤ 200 := by rw [List.length_take]; omega
              have hlen2 : (L.drop j).length ≤ 200 := by rw [List.length_drop]; omega
              have hSx := hSh.out; obtain ⟨M, hM0⟩ : ∃ M, M = L.take j := ⟨_, rfl⟩
              obtain ⟨D, hD0⟩ : ∃ D, D = L.drop j := ⟨_, rfl⟩
              rw [← hM0] at hlen1; rw [← hD0] at hlen2; have hM := Lib.hid hM0; have hD := Lib.hid hD0; clear hM0 hD0; go_wp2_with (first | (refine wpList_slc_h (x := .tmp 70) (y := .tmp 71) (u := j) rfl rfl elem_strs rfl hSx rfl (by rfl) (by omega) ?_; intro v1 hs1; rw [← hM.out] at hs1) | (at_builtin; refine wpList_app (base := wc.heap.size) rfl (.tmp 69) (.tmp 72) 28 9 rfl elem_strs strEnc_len strEnc_one (.slice none 0 0) [] rfl Own.nil v1 M rfl hs1 (by simp; unfold maxLen; omega) (by simp; omega) (Nat.le_refl _) ?_; intro va w3 hO3 hg3 _ _; rw [List.nil_append] at hO3; have hB3 : Below wc.heap.size wc w3 := (Below.refl _ _).grown hg3 (Nat.le_refl _) (fun j e => by simp [Value.ownBlock] at e); have N := Blk.new w3 [.string x] 9; have hB4 := hB3.alloc hB3.size (.cells #[.string x] 9)) | (at_builtin; refine wpList_app1 (base := wc.heap.size) rfl (.tmp 74) (.tmp 76) 28 9 rfl elem_strs strEnc_len strEnc_one va M rfl (hO3.alloc _) w3.heap.size 1 x rfl (fun j u hu => (N.cell j).trans hu) (by omega) (by unfold maxLen; omega) hB4.size ?_; intro g6 c6 w6 hO6 hg6 _; have hB6 := hB4.grown hg6 hB4.size (fun k e => hO3.ge e); have hSy := hSx.pure hB6) | (refine wpList_slc_l (x := .tmp 79) (y := .tmp 80) (l := j) rfl rfl elem_strs rfl hSy rfl (by rfl) (by omega) ?_; intro v2 hs2; rw [← hD.out] at hs2) | (at_builtin; refine wpList_app (base := wc.heap.size) rfl (.tmp 78) (.tmp 81) 28 9 rfl elem_strs strEnc_len strEnc_one (.slice (some ⟨g6, 0, none⟩) (M.length + 1) c6) (M ++ [x]) rfl hO6 v2 D rfl hs2 (by simp; unfold maxLen; omega) (by simp; omega) hB6.size ?_; intro vb w7 hO7 hg7 _ _; have hB7 := hB6.grown hg7 hB6.size (fun k e => hO6.ge e))); have hO8 := Lib.hid (hO7.rebase (fun k hk => Nat.le_trans hB.size (hO7.ge hk))); clear hO7 hO6 hO3 hSy hSx N; go_roundw
              case rel => exact ⟨k + 1, by omega, by go_num, hB.trans (hB7.mono hB.size), A.pure hB7, by rw [hsth.out, hins.out, if_neg (by rintro ⟨_, q⟩; exact hen.out q)]; rw [← hM.out, ← hD.out]; simpa using hO8.out⟩
              case measure => simp [intOf]; omega
          · have hl2 : L[j].toList < x.toList := by rw [bless_iff] at hb; exact of_decide_eq_true hb
            have hlow2 := Lib.hid (show ∀ i, (h : i < L.length) → i < j + 1 → L[i].toList < x.toList from fun i h hi => by
              rcases Nat.lt_or_ge i j with q | q
              · exact hlow.out i h q
              · obtain rfl : i = j := by omega
                exact hl2)
            clear hl2; go_wp2; go_round
            case rel => exact ⟨j + 1, by omega, by go_num, hlow2⟩
            case measure => simp [intOf]; omega
        · have hins := Lib.hid (insN_at L x j hj hlow.out (fun h => absurd h hjl)); have hjli : ¬ (j : Int) < (L.length : Int) := by omega
          have hlen1 : (L.take j).length ≤ 200 := by rw [List.length_take]; omega
          have hlen2 : (L.drop j).length ≤ 200 := by rw [List.length_drop]; omega
          have hSx := hSh.out; obtain ⟨M, hM0⟩ : ∃ M, M = L.take j := ⟨_, rfl⟩
          obtain ⟨D, hD0⟩ : ∃ D, D = L.drop j := ⟨_, rfl⟩
          rw [← hM0] at hlen1; rw [← hD0] at hlen2; have hM := Lib.hid hM0; have hD := Lib.hid hD0; clear hM0 hD0; go_wp2_with (first | (refine wpList_slc_h (x := .tmp 70) (y := .tmp 71) (u := j) rfl rfl elem_strs rfl hSx rfl (by rfl) (by omega) ?_; intro v1 hs1; rw [← hM.out] at hs1) | (at_builtin; refine wpList_app (base := wc.heap.size) rfl (.tmp 69) (.tmp 72) 28 9 rfl elem_strs strEnc_len strEnc_one (.slice none 0 0) [] rfl Own.nil v1 M rfl hs1 (by simp; unfold maxLen; omega) (by simp; omega) (Nat.le_refl _) ?_; intro va w3 hO3 hg3 _ _; rw [List.nil_append] at hO3; have hB3 : Below wc.heap.size wc w3 := (Below.refl _ _).grown hg3 (Nat.le_refl _) (fun j e => by simp [Value.ownBlock] at e); have N := Blk.new w3 [.string x] 9; have hB4 := hB3.alloc hB3.size (.cells #[.string x] 9)) | (at_builtin; refine wpList_app1 (base := wc.heap.size) rfl (.tmp 74) (.tmp 76) 28 9 rfl elem_strs strEnc_len strEnc_one va M rfl (hO3.alloc _) w3.heap.size 1 x rfl (fun j u hu => (N.cell j).trans hu) (by omega) (by unfold maxLen; omega) hB4.size ?_; intro g6 c6 w6 hO6 hg6 _; have hB6 := hB4.grown hg6 hB4.size (fun k e => hO3.ge e); have hSy := hSx.pure hB6) | (refine wpList_slc_l (x := .tmp 79) (y := .tmp 80) (l := j) rfl rfl elem_strs rfl hSy rfl (by rfl) (by omega) ?_; intro v2 hs2; rw [← hD.out] at hs2) | (at_builtin; refine wpList_app (base := wc.heap.size) rfl (.tmp 78) (.tmp 81) 28 9 rfl elem_strs strEnc_len strEnc_one (.slice (some ⟨g6, 0, none⟩) (M.length + 1) c6) (M ++ [x]) rfl hO6 v2 D rfl hs2 (by simp; unfold maxLen; omega) (by simp; omega) hB6.size ?_; intro vb w7 hO7 hg7 _ _; have hB7 := hB6.grown hg7 hB6.size (fun k e => hO6.ge e))); have hO8 := Lib.hid (hO7.rebase (fun k hk => Nat.le_trans hB.size (hO7.ge hk))); clear hO7 hO6 hO3 hSy hSx N; go_roundw
          case rel => exact ⟨k + 1, by omega, by go_num, hB.trans (hB7.mono hB.size), A.pure hB7, by rw [hsth.out, hins.out, if_neg (by rintro ⟨q, _⟩; exact hjl q)]; rw [← hM.out, ← hD.out]; simpa using hO8.out⟩
          case measure => simp [intOf]; omega
    · obtain rfl : k = puts.length + takes.length := by omega
      have he := hQe.out; rw [List.take_of_length_le (by rw [hNlh.out]; exact Nat.le_refl _), ← he] at hO; go_wp2; go_ret; exact ⟨_, rfl, hO.rebase (fun k hk => Nat.le_trans hs2.out (hO.ge hk)), hT2.trans (hB.mono hT2.size)⟩
end Go.Proofs.YtlonokcaddpniaaGreatDoor
