/- posthouseref17.Copy, AddPut, AddTake. Conditions: contracts of posthouseref13's calls; sizes. Written by gen_wkU.py. (Texts joined.) -/
import Derived.Test.YtlonokcaddpniaaGreatDoorWE
import Derived.Test.YtlonokcaddpniaaGreatDoorEDA
import Derived.Test.YtlonokcaddpniaaGreatDoorWH
import Derived.Test.YtlonokcaddpniaaGreatDoorEU
import Derived.Test.YtlonokcaddpniaaGreatDoorER
set_option linter.unusedSimpArgs false
set_option linter.unusedVariables false
namespace Go.Proofs.YtlonokcaddpniaaGreatDoor
open Go.RowKit
def MpOk : Prop := ∀ (t : PtT) (P : Nat → Prop) (w : World), Rd P w t.pr.app → (t.q.size : Int) < 4611686018427387904 → Calls Tryz.prog 56 #[t.arg] w fun e w' => e = .returned (.bool t.p.mayB) ∧ Below w.heap.size w w'
def DqOk : Prop := ∀ (w : World) (s : ByteArray), (s.size : Int) < 4611686018427387904 → Calls Tryz.prog 58 #[.string s] w fun e w' => e = .returned (.bool (qn s)) ∧ Below w.heap.size w w'
def DiOk : Prop := ∀ (w : World) (n : Int), Calls Tryz.prog 59 #[.int .u64 n] w fun e w' => e = .returned (.bool (idOk n)) ∧ w = w'
set_option maxRecDepth 100000 in
set_option maxHeartbeats 3200000 in
theorem dput_any (hMp : MpOk) (t : PtT) (P : Nat → Prop) (w : World) (hR : Rd P w t.pr.app) (hq : (t.q.size : Int) < 4611686018427387904) : Calls Tryz.prog 38 #[t.arg] w fun e w' => e = .returned (.bool (Pt.okB false t.p)) ∧ Below w.heap.size w w' := by
  have hm := fun (u : World) (h : Below w.heap.size w u) => hMp t P u (hR.pure h) hq
  obtain ⟨m, hmm⟩ : ∃ m, t.p.mayB = m := ⟨_, rfl⟩
  rw [hmm] at hm; have hok : Pt.okB false t.p = (m && decide (t.id = 0)) := by rw [← may_ok4, hmm]; rfl
  rw [hok]; clear hmm hok hq; obtain ⟨q, id, ⟨key, dur, red, mid, app⟩, body⟩ := t; have hR : Rd P w app := hR; obtain ⟨k, n, s, ka, kc, la, lc, ks, l, rfl, -⟩ := hR.open; clear hR; rw [PtT.arg_mk] at hm ⊢; have hmh := Lib.hid hm; clear hm; have hB1 := (Below.refl w.heap.size w).alloc (Nat.le_refl _) (.cells #[.string q, .int .u64 id, .string key, .bool dur, .bool red, .string mid, .int .u8 k, .int .u64 n, .string s, .slice ka ks.length kc, .slice la l.length lc, .string body] 35); have A1 := Blk.new w [.string q, .int .u64 id, .string key, .bool dur, .bool red, .string mid, .int .u8 k, .int .u64 n, .string s, .slice ka ks.length kc, .slice la l.length lc, .string body] 35; have a0 := A1.at 0 rfl; have a1 := A1.at 1 rfl; have a2 := A1.at 2 rfl; have a3 := A1.at 3 rfl; have a4 := A1.at 4 rfl; have a5 := A1.at 5 rfl; have a6 := A1.at 6 rfl; have a7 := A1.at 7 rfl; have a8 := A1.at 8 rfl; have a9 := A1.at 9 rfl; have a10 := A1.at 10 rfl; have a11 := A1.at 11 rfl; clear A1; show Calls _ _ _ _ (fun e w' => e = .returned (.bool (m && decide (id = 0))) ∧ Below w.heap.size w w')
  by_cases h0 : id = 0
  · subst h0; rw [decide_eq_true rfl, Bool.and_true]; go_enter Tryz.func38, Tryz.ntmps38; go_wp2_with (go_at_call 56; (with_reducible refine (hmh.out _ hB1).mono ?_); rintro e w2 ⟨rfl, hB2⟩; have hT2 := hB1.trans (hB2.mono hB1.size)); go_ret; exact ⟨rfl, hT2⟩
  · rw [decide_eq_false h0, Bool.and_false]; have h1 : (id == 0) = false := beq_eq_false_iff_ne.2 h0; go_enter Tryz.func38, Tryz.ntmps38; go_wp2; go_ret; exact ⟨rfl, hB1⟩
set_option maxRecDepth 100000 in
set_option maxHeartbeats 1600000 in
theorem dref_any (hDq : DqOk) (hDi : DiOk) (r : Rf) (w : World) (hq : (r.q.size : Int) < 4611686018427387904) : Calls Tryz.prog 41 #[.agg #[.string r.q, .int .u64 r.id]] w fun e w' => e = .returned (.bool (Rf.okB r)) ∧ Below w.heap.size w w' := by
  have hqn := fun (u : World) => hDq u r.q hq
  have hid := fun (u : World) => hDi u r.id
  have hok : Rf.okB r = (qn r.q && idOk r.id) := rfl; rw [hok]; obtain ⟨q, id⟩ := r; dsimp only at hqn hid hok ⊢; obtain ⟨c, hc⟩ : ∃ c, qn q = c := ⟨_, rfl⟩
  obtain ⟨d, hd⟩ : ∃ d, idOk id = d := ⟨_, rfl⟩
  rw [hc, hd]; rw [hc] at hqn; rw [hd] at hid; have hqh := Lib.hid hqn; have hih := Lib.hid hid; clear hqn hid hok hc hd hq; have hB1 := (Below.refl w.heap.size w).alloc (Nat.le_refl _) (.cells #[.string q, .int .u64 id] 37); have A1 := Blk.new w [.string q, .int .u64 id] 37; have a0 := A1.at 0 rfl; go_enter Tryz.func41, Tryz.ntmps41; cases c
  all_goals
    go_wp2_with (first | (go_at_call 58; (with_reducible refine (hqh.out _).mono ?_); rintro e w2 ⟨rfl, hB2⟩; have A2 := A1.pure hB2; have hT2 := hB1.trans (hB2.mono hB1.size); have b1 := A2.at 1 rfl) | (go_at_call 59; (with_reducible refine (hih.out _).mono ?_); rintro e w3 ⟨rfl, rfl⟩)); go_ret; exact ⟨rfl, hT2⟩
theorem cntR_take (ks : List Rf) (r : Rf) (k : Nat) (hk : k < ks.length) : cntR (ks.take (k + 1)) r = cntR (ks.take k) r + if sameR ks[k] r = true then 1 else 0 := by
  rw [List.take_succ_eq_append_getElem hk, cntR_append, cntR_cons, cntR_nil]; omega
theorem cntR_le (ks : List Rf) (r : Rf) : cntR ks r ≤ ks.length := by unfold cntR; exact List.countP_le_length
set_option maxRecDepth 100000 in
set_option maxHeartbeats 1600000 in
theorem dcount_any (w : World) (ka : Option Addr) (kc : Nat) (ks : List Rf) (r : Rf) (hK : Slc rfEnc 2 w (.slice ka ks.length kc) ks) (hmk : (ks.length : Int) ≤ 9223372036854775807) :
    Calls Tryz.prog 42 #[.slice ka ks.length kc, .agg #[.string r.q, .int .u64 r.id]] w fun e w' => e = .returned (.int .i64 (cntR ks r : Nat)) ∧ Below w.heap.size w w' := by
  have hB0 := (Below.refl w.heap.size w).alloc (Nat.le_refl _) (.cells #[.string r.q, .int .u64 r.id] 37); have B0 := Blk.new w [.string r.q, .int .u64 r.id] 37; go_enter Tryz.func42, Tryz.ntmps42; go_wp2; go_loopw [5, 6] (fun s5 s6 wr => ∃ (k : Nat), k ≤ ks.length ∧ s5 = .int .i64 (cntR (ks.take k) r : Nat) ∧ s6 = .int .i64 k ∧ Below w.heap.size w wr ∧ Blk wr w.heap.size [.string r.q, .int .u64 r.id]) (fun _ s6 _ => ks.length - (intOf s6).toNat)
  case atStart => exact ⟨0, by omega, by simp [cntR_nil], rfl, hB0, B0⟩
  case round =>
    obtain ⟨k, hk, rfl, rfl, hB, B1⟩ := hrel; clear hB0 B0; obtain ⟨c, hc⟩ : ∃ c, cntR (ks.take k) r = c := ⟨_, rfl⟩
    rw [hc]; have hcl : c ≤ k := by rw [← hc]; exact Nat.le_trans (cntR_le _ _) (by rw [List.length_take]; omega)
    by_cases hlt : k < ks.length
    · have hKr := hK.pure hB; obtain ⟨kg, koff, rfl⟩ := hKr.addrB hlt; obtain ⟨q, i, hkx, c0, c1⟩ := rf_elem hKr hlt; obtain ⟨b, hb⟩ : ∃ b, sameR ⟨q, i⟩ r = b := ⟨_, rfl⟩
      have hR := fun (u : World) => (rf_eql u q r.q i r.id).trans (show _ = Result.ok (.bool b) u by rw [← hb])
      have b0 := B1.at 0 rfl; have b1 := B1.at 1 rfl; have hst := cntR_take ks r k hlt; rw [hkx, hb, hc] at hst; have hsth := Lib.hid hst; clear hkx hKr hb hst hc; cases b
      all_goals
        go_wp2; go_region; go_wp2; go_roundw
        case rel => exact ⟨k + 1, by omega, by rw [hsth.out]; simp, by go_num, below_dr hB, B1.drew⟩
        case measure => simp [intOf]; omega
    · obtain rfl : k = ks.length := by omega
      have hch := Lib.hid hc; clear hc; go_wp2; go_ret; refine ⟨?_, hB⟩; have := hch.out; rw [List.take_length] at this; rw [this]; rfl
theorem wk_no {w : Wk} (h : ¬ w.okB = true) : w.chk = 130 := by unfold Wk.chk; rw [if_neg h]
set_option maxRecDepth 100000 in
set_option maxHeartbeats 6400000 in
theorem dcheck17_any (hMp : MpOk) (hDq : DqOk) (hDi : DiOk) (t : WkT) (P : Nat → Prop) (w : World) (hR : WkRd P w t) (hqp : ∀ p ∈ t.puts, (p.q.size : Int) < 4611686018427387904) (hqt : ∀ r ∈ t.takes, (r.q.size : Int) < 4611686018427387904) :
    Calls Tryz.prog 17 #[t.arg] w fun e w' => e = .returned (.int .i64 t.w.chk) ∧ Below w.heap.size w w' := by
  obtain ⟨C, hC⟩ : ∃ C, t.w.chk = C := ⟨_, rfl⟩
  have hok := wk_okB t.w; rw [hC]; obtain ⟨pa, pc, ta, tc, puts, takes, rfl, hpl, htl⟩ := wkrd_open hR
  have hok : (WkT.mk (.slice pa puts.length pc) (.slice ta takes.length tc) puts takes).w.okB = true ↔ puts.length ≤ 100 ∧ takes.length ≤ 100 ∧ (∀ p ∈ puts, Pt.okB false p.p = true) ∧ ∀ r ∈ takes, Rf.okB r = true ∧ cntR takes r ≤ 1 := by
    rw [hok]; show (puts.map PtT.p).length ≤ 100 ∧ takes.length ≤ 100 ∧ (∀ p ∈ puts.map PtT.p, Pt.okB false p = true) ∧ (∀ r ∈ takes, Rf.okB r = true ∧ cntR takes r ≤ 1) ↔ _
    rw [List.length_map, List.forall_mem_map]
  have hno : ¬ (puts.length ≤ 100 ∧ takes.length ≤ 100 ∧ (∀ p ∈ puts, Pt.okB false p.p = true) ∧ ∀ r ∈ takes, Rf.okB r = true ∧ cntR takes r ≤ 1) → C = 130 := fun h => by rw [← hC]; exact wk_no (fun q => h (hok.1 q))
  have hyes : (puts.length ≤ 100 ∧ takes.length ≤ 100 ∧ (∀ p ∈ puts, Pt.okB false p.p = true) ∧ ∀ r ∈ takes, Rf.okB r = true ∧ cntR takes r ≤ 1) → C = 0 := fun h => by rw [← hC, wk_ok]; exact hok.2 h
  have hnoh := Lib.hid hno; have hyesh := Lib.hid hyes; have hRh := Lib.hid hR; have hqph := Lib.hid hqp; have hqth := Lib.hid hqt; have hpi : (puts.length : Int) ≤ 9223372036854775807 := by unfold maxLen at hpl; omega
  have hti : (takes.length : Int) ≤ 9223372036854775807 := by unfold maxLen at htl; omega
  clear hno hyes hR hok hC hpl htl hqp hqt; rw [WkT.arg_mk]; have hB0 := (Below.refl w.heap.size w).alloc (Nat.le_refl _) (.cells #[.slice pa puts.length pc, .slice ta takes.length tc] 25); have A0 := Blk.new w [.slice pa puts.length pc, .slice ta takes.length tc] 25; have a0 := A0.at 0 rfl; have a1 := A0.at 1 rfl; by_cases hlp : puts.length ≤ 100
  rotate_left 1
  · have h1 : (100 : Int) < (puts.length : Int) := by omega
    obtain rfl : C = 130 := hnoh.out (fun h => hlp h.1); go_enter Tryz.func17, Tryz.ntmps17; go_wp2; go_ret; exact ⟨rfl, hB0⟩
  by_cases hlt : takes.length ≤ 100
  rotate_left 1
  · have h1 : (100 : Int) < (takes.length : Int) := by omega
    have h2 : ¬ (100 : Int) < (puts.length : Int) := by omega
    obtain rfl : C = 130 := hnoh.out (fun h => hlt h.2.1); go_enter Tryz.func17, Tryz.ntmps17; go_wp2; go_ret; exact ⟨rfl, hB0⟩
  have h1 : ¬ (100 : Int) < (takes.length : Int) := by omega
  have h2 : ¬ (100 : Int) < (puts.length : Int) := by omega
  go_enter Tryz.func17, Tryz.ntmps17; go_wp2; generalize w.alloc (.cells #[.slice pa puts.length pc, .slice ta takes.length tc] 25) = w0 at hB0 A0 ⊢; clear a0 a1; go_loopw [3] (fun s3 wr => ∃ k : Nat, k ≤ puts.length ∧ s3 = .int .i64 k ∧ Hid (∀ p ∈ puts.take k, Pt.okB false p.p = true) ∧ Below w.heap.size w wr ∧ Blk wr w.heap.size [.slice pa puts.length pc, .slice ta takes.length tc]) (fun s3 _ => puts.length - (intOf s3).toNat)
  case atStart => exact ⟨0, Nat.zero_le _, rfl, Lib.hid (fun p hp => by simp at hp), hB0, A0⟩
  case round =>
    obtain ⟨k, hk, rfl, hall, hB, A⟩ := hrel; clear hB0 A0; have a0 := A.at 0 rfl; have a1 := A.at 1 rfl; by_cases hkt : k < puts.length
    · have hRr := hRh.out.pure hB; have hSl : Slc ptEnc 12 wr (.slice pa puts.length pc) puts := hRr.p; have hRd := hRr.r puts[k] (List.getElem_mem hkt); obtain ⟨g, off, rfl⟩ := hSl.addrB hkt; obtain ⟨q, id, key, dur, red, mid, uk, un, us, uka, ukc, ula, ulc, uks, ul, body, hx, c0, c1, c2, c3, c4, c5, c6, c7, c8, c9, c10, c11⟩ := pt_elem hSl hkt hRd; obtain ⟨b, hb⟩ : ∃ b, Pt.okB false puts[k].p = b := ⟨_, rfl⟩
      have hcall := dput_any hMp puts[k] _ wr hRd (hqph.out _ (List.getElem_mem hkt)); rw [hb] at hcall; rw [hx, PtT.arg_mk] at hcall; have hcallh := Lib.hid hcall
      have hst := Lib.hid (fun (e : b = true) p (hp : p ∈ puts.take (k + 1)) => show Pt.okB false p.p = true by
        rw [List.take_succ_eq_append_getElem hkt] at hp; rcases List.mem_append.1 hp with h | h
        · exact hall.out p h
        · rw [List.mem_singleton.1 h, hb, e])
      have hfl := Lib.hid (fun (e : b = false) => show C = 130 from hnoh.out (fun h => by have h := h.2.2.1 _ (List.getElem_mem hkt); rw [hb, e] at h; cases h)); clear hcall hb hx hRd hSl hRr; cases b
      · obtain rfl := hfl.out rfl; clear hst hfl; go_wp2_with (go_at_call 38; (with_reducible refine hcallh.out.mono ?_); rintro e w2 ⟨rfl, hB2⟩; have hT2 := hB.trans (hB2.mono hB.size)); go_ret; exact ⟨rfl, hT2⟩
      · have hst2 := Lib.hid (hst.out rfl); clear hst hfl; go_wp2_with (go_at_call 38; (with_reducible refine hcallh.out.mono ?_); rintro e w2 ⟨rfl, hB2⟩; have hT2 := hB.trans (hB2.mono hB.size); have A2 := A.pure hB2); go_roundw
        case rel => exact ⟨k + 1, by omega, by go_num, hst2, hT2, A2⟩
        case measure => simp [intOf]; omega
    · obtain rfl : k = puts.length := by omega
      have hp := Lib.hid (show ∀ p ∈ puts, Pt.okB false p.p = true by have h := hall.out; rw [List.take_length] at h; exact h); clear hall hk hkt; go_wp2; clear a0 a1; have hBs := Lib.hid hB; have As := Lib.hid A; clear hB A; obtain ⟨ws, rfl⟩ : ∃ ws, ws = wr := ⟨_, rfl⟩
      go_loopw [4] (fun s4 wr => ∃ k : Nat, k ≤ takes.length ∧ s4 = .int .i64 k ∧ Hid (∀ r ∈ takes.take k, Rf.okB r = true ∧ cntR takes r ≤ 1) ∧ Below w.heap.size w wr ∧ Blk wr w.heap.size [.slice pa puts.length pc, .slice ta takes.length tc]) (fun s4 _ => takes.length - (intOf s4).toNat)
      case atStart => exact ⟨0, Nat.zero_le _, rfl, Lib.hid (fun r hr => by simp at hr), hBs.out, As.out⟩
      case round =>
        obtain ⟨k, hk, rfl, hall, hB, A⟩ := hrel; clear hBs As; by_cases hkt : k < takes.length
        · have hRr := hRh.out.pure hB; have hSl : Slc rfEnc 2 wr (.slice ta takes.length tc) takes := hRr.s; have hSlh := Lib.hid (fun (v : World) (h : Below wr.heap.size wr v) => hSl.pure h); obtain ⟨g, off, rfl⟩ := hSl.addrB hkt; obtain ⟨q, id, hx, -, -⟩ := rf_elem hSl hkt
          have helem := Lib.hid (fun (v : World) (h : Below wr.heap.size wr v) => show v.cell? ⟨g, off + k * 2, none⟩ = some (.string q) ∧ v.cell? ⟨g, off + k * 2 + 1, none⟩ = some (.int .u64 id) by
            have h2 := hSl.pure h
            exact ⟨h2.get k hkt 0 _ (by rw [hx]; rfl), h2.get k hkt 1 _ (by rw [hx]; rfl)⟩)
          obtain ⟨b, hb⟩ : ∃ b, Rf.okB takes[k] = b := ⟨_, rfl⟩
          obtain ⟨m, hm⟩ : ∃ m, cntR takes takes[k] = m := ⟨_, rfl⟩
          have hrf := fun (u : World) => dref_any hDq hDi takes[k] u (hqth.out _ (List.getElem_mem hkt))
          have hcn := fun (u : World) (h : Slc rfEnc 2 u (.slice (some ⟨g, off, none⟩) takes.length tc) takes) => dcount_any u (some ⟨g, off, none⟩) tc takes takes[k] h hti
          have hml : m ≤ takes.length := by rw [← hm]; exact cntR_le _ _
          rw [hb, hx] at hrf; rw [hm, hx] at hcn; have hrfh := Lib.hid hrf; have hcnh := Lib.hid hcn
          have hst := Lib.hid (fun (e : b = true) (e2 : m ≤ 1) r (hr : r ∈ takes.take (k + 1)) => show Rf.okB r = true ∧ cntR takes r ≤ 1 by
            rw [List.take_succ_eq_append_getElem hkt] at hr; rcases List.mem_append.1 hr with h | h
            · exact hall.out r h
            · rw [List.mem_singleton.1 h, hb, hm]; exact ⟨e, e2⟩)
          have hfl := Lib.hid (fun (e : ¬ (b = true ∧ m ≤ 1)) => show C = 130 from hnoh.out (fun h => e (by have h := h.2.2.2 _ (List.getElem_mem hkt); rw [hb, hm] at h; exact h))); clear hrf hcn hb hm hx hSl hRr; have a0 := A.at 0 rfl; have a1 := A.at 1 rfl; go_upto_region 11 with fail; clear a0 a1; cases b
          · obtain rfl := hfl.out (fun h => by cases h.1); clear hst hfl; have hb := (Below.refl wr.heap.size wr).drew; refine wp_region_held_drew (S := fun v => Below wr.heap.size wr v) (by kernel_rfl) hb (fun hHeld => ?_); refine takeY 0 36 rfl rfl (v := ?_) ?_ hHeld ?_
            rotate_left 1
            · (intro v hSw; (try dsimp only at hSw); clear hSw; go_simp; (try with_reducible rfl))
            (try simp only [Act.put, lsT, lsZ, lsS]); refine takeY 1 37 rfl rfl (v := ?_) ?_ hHeld ?_
            rotate_left 1
            · (intro v hSw; (try dsimp only at hSw); have q := A.pure hSw; have q1 := q.at 1 rfl; clear q; clear hSw; go_simp; (try with_reducible rfl))
            (try simp only [Act.put, lsT, lsZ, lsS]); refine takeY 2 38 rfl rfl (v := ?_) ?_ hHeld ?_
            rotate_left 1
            · (intro v hSw; (try dsimp only at hSw); clear hSw; go_simp; (try with_reducible rfl))
            (try simp only [Act.put, lsT, lsZ, lsS]); refine takeY 3 39 rfl rfl (v := ?_) ?_ hHeld ?_
            rotate_left 1
            · (intro v hSw; (try dsimp only at hSw); clear hSw; go_simp; (try with_reducible rfl))
            (try simp only [Act.put, lsT, lsZ, lsS]); refine takeY 4 40 rfl rfl (v := ?_) ?_ hHeld ?_
            rotate_left 1
            · (intro v hSw; (try dsimp only at hSw); have q := helem.out _ hSw; have q0 := q.1; have q1 := q.2; clear q; clear hSw; go_simp; (try with_reducible rfl))
            (try simp only [Act.put, lsT, lsZ, lsS]); refine wpAnyH_ready (rs := [5]) (by kernel_rfl) (by simp) ?_; refine AllReadyH.cons rfl (fun Kq hKq => ?_) AllReadyH.nil; go_simp; go_at_call 41; refine (hrfh.out _).mono ?_; rintro e w2 ⟨rfl, hB2⟩; have hb : Below wr.heap.size wr w2 := hb.trans (hB2.mono hb.size); refine hKq.out _ _ hb (fun hHeld => ?_); clear hKq Kq; (try simp only [Act.put, lsT, lsZ, lsS]); refine takeY 6 42 rfl rfl (v := ?_) ?_ hHeld ?_
            rotate_left 1
            · (intro v hSw; (try dsimp only at hSw); clear hSw; go_simp; (try with_reducible rfl))
            (try simp only [Act.put, lsT, lsZ, lsS]); refine takeY 7 43 rfl rfl (v := ?_) ?_ hHeld ?_
            rotate_left 1
            · (intro v hSw; (try dsimp only at hSw); clear hSw; go_simp; (try with_reducible rfl))
            (try simp only [Act.put, lsT, lsZ, lsS]); refine takeN 8 44 rfl rfl hHeld ?_; (try simp only [Act.put, lsT, lsZ, lsS]); refine takeN 9 45 rfl rfl hHeld ?_; (try simp only [Act.put, lsT, lsZ, lsS]); refine takeN 10 46 rfl rfl hHeld ?_; (try simp only [Act.put, lsT, lsZ, lsS]); refine takeN 11 47 rfl rfl hHeld ?_; (try simp only [Act.put, lsT, lsZ, lsS]); refine takeN 12 48 rfl rfl hHeld ?_; (try simp only [Act.put, lsT, lsZ, lsS]); refine takeN 13 49 rfl rfl hHeld ?_; (try simp only [Act.put, lsT, lsZ, lsS]); refine takeN 14 50 rfl rfl hHeld ?_; (try simp only [Act.put, lsT, lsZ, lsS]); refine takeN 15 51 rfl rfl hHeld ?_; (try simp only [Act.put, lsT, lsZ, lsS]); refine takeN 16 52 rfl rfl hHeld ?_; (try simp only [Act.put, lsT, lsZ, lsS]); refine takeY 17 53 rfl rfl (v := ?_) ?_ hHeld ?_
            rotate_left 1
            · (intro v hSw; (try dsimp only at hSw); clear hSw; go_simp; (try with_reducible rfl))
            (try simp only [Act.put, lsT, lsZ, lsS]); refine wpAnyH_done (by kernel_rfl) ?_ _; have hTb := hB.trans (hb.mono hB.size); have Ab := A.pure hb; clear hHeld hb hSlh helem hrfh hcnh hB A; go_wp2; go_ret; exact ⟨rfl, hTb⟩
          have hb := (Below.refl wr.heap.size wr).drew; refine wp_region_held_drew (S := fun v => Below wr.heap.size wr v) (by kernel_rfl) hb (fun hHeld => ?_); refine takeY 0 36 rfl rfl (v := ?_) ?_ hHeld ?_
          rotate_left 1
          · (intro v hSw; (try dsimp only at hSw); clear hSw; go_simp; (try with_reducible rfl))
          (try simp only [Act.put, lsT, lsZ, lsS]); refine takeY 1 37 rfl rfl (v := ?_) ?_ hHeld ?_
          rotate_left 1
          · (intro v hSw; (try dsimp only at hSw); have q := A.pure hSw; have q1 := q.at 1 rfl; clear q; clear hSw; go_simp; (try with_reducible rfl))
          (try simp only [Act.put, lsT, lsZ, lsS]); refine takeY 2 38 rfl rfl (v := ?_) ?_ hHeld ?_
          rotate_left 1
          · (intro v hSw; (try dsimp only at hSw); clear hSw; go_simp; (try with_reducible rfl))
          (try simp only [Act.put, lsT, lsZ, lsS]); refine takeY 3 39 rfl rfl (v := ?_) ?_ hHeld ?_
          rotate_left 1
          · (intro v hSw; (try dsimp only at hSw); clear hSw; go_simp; (try with_reducible rfl))
          (try simp only [Act.put, lsT, lsZ, lsS]); refine takeY 4 40 rfl rfl (v := ?_) ?_ hHeld ?_
          rotate_left 1
          · (intro v hSw; (try dsimp only at hSw); have q := helem.out _ hSw; have q0 := q.1; have q1 := q.2; clear q; clear hSw; go_simp; (try with_reducible rfl))
          (try simp only [Act.put, lsT, lsZ, lsS]); refine wpAnyH_ready (rs := [5]) (by kernel_rfl) (by simp) ?_; refine AllReadyH.cons rfl (fun Kq hKq => ?_) AllReadyH.nil; go_simp; go_at_call 41; refine (hrfh.out _).mono ?_; rintro e w2 ⟨rfl, hB2⟩; have hb : Below wr.heap.size wr w2 := hb.trans (hB2.mono hb.size); refine hKq.out _ _ hb (fun hHeld => ?_); clear hKq Kq; (try simp only [Act.put, lsT, lsZ, lsS]); refine takeY 6 42 rfl rfl (v := ?_) ?_ hHeld ?_
          rotate_left 1
          · (intro v hSw; (try dsimp only at hSw); clear hSw; go_simp; (try with_reducible rfl))
          (try simp only [Act.put, lsT, lsZ, lsS]); refine takeY 7 43 rfl rfl (v := ?_) ?_ hHeld ?_
          rotate_left 1
          · (intro v hSw; (try dsimp only at hSw); clear hSw; go_simp; (try with_reducible rfl))
          (try simp only [Act.put, lsT, lsZ, lsS]); refine takeY 8 44 rfl rfl (v := ?_) ?_ hHeld ?_
          rotate_left 1
          · (intro v hSw; (try dsimp only at hSw); clear hSw; go_simp; (try with_reducible rfl))
          (try simp only [Act.put, lsT, lsZ, lsS]); refine takeY 9 45 rfl rfl (v := ?_) ?_ hHeld ?_
          rotate_left 1
          · (intro v hSw; (try dsimp only at hSw); have q := A.pure hSw; have q1 := q.at 1 rfl; clear q; clear hSw; go_simp; (try with_reducible rfl))
          (try simp only [Act.put, lsT, lsZ, lsS]); refine takeY 10 46 rfl rfl (v := ?_) ?_ hHeld ?_
          rotate_left 1
          · (intro v hSw; (try dsimp only at hSw); clear hSw; go_simp; (try with_reducible rfl))
          (try simp only [Act.put, lsT, lsZ, lsS]); refine takeY 11 47 rfl rfl (v := ?_) ?_ hHeld ?_
          rotate_left 1
          · (intro v hSw; (try dsimp only at hSw); have q := A.pure hSw; have q1 := q.at 1 rfl; clear q; clear hSw; go_simp; (try with_reducible rfl))
          (try simp only [Act.put, lsT, lsZ, lsS]); refine takeY 12 48 rfl rfl (v := ?_) ?_ hHeld ?_
          rotate_left 1
          · (intro v hSw; (try dsimp only at hSw); clear hSw; go_simp; (try with_reducible rfl))
          (try simp only [Act.put, lsT, lsZ, lsS]); refine takeY 13 49 rfl rfl (v := ?_) ?_ hHeld ?_
          rotate_left 1
          · (intro v hSw; (try dsimp only at hSw); clear hSw; go_simp; (try with_reducible rfl))
          (try simp only [Act.put, lsT, lsZ, lsS]); refine takeY 14 50 rfl rfl (v := ?_) ?_ hHeld ?_
          rotate_left 1
          · (intro v hSw; (try dsimp only at hSw); have q := helem.out _ hSw; have q0 := q.1; have q1 := q.2; clear q; clear hSw; go_simp; (try with_reducible rfl))
          (try simp only [Act.put, lsT, lsZ, lsS]); refine wpAnyH_ready (rs := [15]) (by kernel_rfl) (by simp) ?_; refine AllReadyH.cons rfl (fun Kq hKq => ?_) AllReadyH.nil; go_simp; go_at_call 42; refine (hcnh.out _ (hSlh.out _ hb)).mono ?_; rintro e w3 ⟨rfl, hB3⟩; have hb : Below wr.heap.size wr w3 := hb.trans (hB3.mono hb.size); refine hKq.out _ _ hb (fun hHeld => ?_); clear hKq Kq; (try simp only [Act.put, lsT, lsZ, lsS]); refine takeY 16 52 rfl rfl (v := ?_) ?_ hHeld ?_
          rotate_left 1
          · (intro v hSw; (try dsimp only at hSw); clear hSw; go_simp; (try with_reducible rfl))
          (try simp only [Act.put, lsT, lsZ, lsS]); refine takeY 17 53 rfl rfl (v := ?_) ?_ hHeld ?_
          rotate_left 1
          · (intro v hSw; (try dsimp only at hSw); clear hSw; go_simp; (try with_reducible rfl))
          (try simp only [Act.put, lsT, lsZ, lsS]); refine wpAnyH_done (by kernel_rfl) ?_ _; have hTb := hB.trans (hb.mono hB.size); have Ab := A.pure hb; clear hHeld hb hSlh helem hrfh hcnh hB A; by_cases h1m : m ≤ 1
          · have hst2 := Lib.hid (hst.out rfl h1m); have hmm : ¬ (1 : Int) < (m : Int) := by omega
            clear hst hfl; go_wp2; go_roundw
            case rel => exact ⟨k + 1, by omega, by go_num, hst2, hTb, Ab⟩
            case measure => simp [intOf]; omega
          · obtain rfl := hfl.out (fun h => h1m h.2); have hmm : (1 : Int) < (m : Int) := by omega
            clear hst hfl; go_wp2; go_ret; exact ⟨rfl, hTb⟩
        · obtain rfl : k = takes.length := by omega
          obtain rfl := hyesh.out ⟨hlp, hlt, hp.out, by have h := hall.out; rw [List.take_length] at h; exact h⟩; have a0 := A.at 0 rfl; have a1 := A.at 1 rfl; go_wp2; go_ret; exact ⟨rfl, hB⟩
/-- A work's lists as a copy makes them. -/
theorem CSt.wk {w0 w : World} {v u : Value} {L : List PtT} {T : List Rf} (h : CSt w0 w v L) (hO : Own w0.heap.size 37 2 rfEnc w u T) (hd : ∀ b, v.ownBlock = some b → u.ownBlock ≠ some b) (hp : ∀ p ∈ L, 0 ≤ p.id ∧ p.id < 18446744073709551616) (ht : ∀ r ∈ T, 0 ≤ r.id ∧ r.id < 18446744073709551616) : WkOw w0.heap.size w ⟨v, u, L, T⟩ :=
  ⟨h.o, h.rd, hO, hd, ⟨(by show (0 : Int) ≤ 4; omega), (by show (4 : Int) < 256; omega), (by show (0 : Int) ≤ 0; omega), (by show (0 : Int) < 18446744073709551616; omega), (by show (0 : Int) ≤ 0; omega), (by show (0 : Int) < 4294967296; omega), fun p hp' => by
    obtain ⟨y, hy, rfl⟩ := List.mem_map.1 hp'
    exact ⟨(hp y hy).1, (hp y hy).2, (h.rd y hy).wf⟩, ht⟩⟩
end Go.Proofs.YtlonokcaddpniaaGreatDoor
