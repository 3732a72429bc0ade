/- Package branch: Prepare, Commit, Rollback, Forget, Decide, Spoil, SetTimeout, Restore. Conditions: the table reads. Written by gen_brP.py. -/
import Derived.Test.YtcelpincmpjhkaaHJ
import Derived.Test.YtcelpincmpjhkaaBrN
import Derived.Test.YtcelpincmpjhkaaBrO
namespace Go.Proofs.Ytcelpincmpjhkaa
set_option linter.unusedSimpArgs false
set_option linter.unusedVariables false
open Go.RowKit


set_option maxRecDepth 100000 in
set_option maxHeartbeats 1600000 in
theorem prepare_fn (w : World) (rv av : Value) (R : List Brn) (A : List Asc) (x : Xid) (empty : Bool) (hR : Slc brEnc 7 w rv R) (hA : Slc ascEnc 5 w av A) (hLR : R.length ≤ 1000000) (hLA : A.length ≤ 1000000) :
    Calls Try.prog 26 #[.agg #[rv, av], .agg #[.int .u32 x.1, .string x.2.1, .string x.2.2], .bool empty] w (TabPost w (overB (mayB R A true x) (prepareD R A x empty))) := by
  have hmf : ∀ (fn : Fn) (first cap : Array Value) (w : World), (Instr.makeFunc fn first cap).run Try.prog w = .ok (.func fn first cap) w := fun _ _ _ _ => rfl
  obtain ⟨ra, rc, rfl, hm1⟩ := hR.len
  obtain ⟨aa, ac, rfl, hm2⟩ := hA.len
  obtain ⟨xf, xg, xb⟩ := x
  have hB0 : Below w.heap.size w ((((w.alloc (.cells #[.slice ra R.length rc, .slice aa A.length ac] 25)).alloc (.cells #[.int .u32 xf, .string xg, .string xb] 28)).alloc (.cells #[.bool empty] 4)).alloc (.cells #[.slice none 0 0, .slice none 0 0] 25)) := (((((Below.refl _ _).alloc (Nat.le_refl _) _).alloc (by simp) _).alloc (by simp; omega) _).alloc (by simp; omega) _)
  have t0 : Blk ((((w.alloc (.cells #[.slice ra R.length rc, .slice aa A.length ac] 25)).alloc (.cells #[.int .u32 xf, .string xg, .string xb] 28)).alloc (.cells #[.bool empty] 4)).alloc (.cells #[.slice none 0 0, .slice none 0 0] 25)) (w.heap.size) [.slice ra R.length rc, .slice aa A.length ac] := ((((Blk.newAt w [.slice ra R.length rc, .slice aa A.length ac] 25 (w.heap.size) (by simp)).alloc (.cells #[.int .u32 xf, .string xg, .string xb] 28)).alloc (.cells #[.bool empty] 4)).alloc (.cells #[.slice none 0 0, .slice none 0 0] 25))
  have ct0 := t0.at 0 rfl
  have ct1 := t0.at 1 rfl
  have x0 : Blk ((((w.alloc (.cells #[.slice ra R.length rc, .slice aa A.length ac] 25)).alloc (.cells #[.int .u32 xf, .string xg, .string xb] 28)).alloc (.cells #[.bool empty] 4)).alloc (.cells #[.slice none 0 0, .slice none 0 0] 25)) (w.heap.size + 1) [.int .u32 xf, .string xg, .string xb] := (((Blk.newAt (w.alloc (.cells #[.slice ra R.length rc, .slice aa A.length ac] 25)) [.int .u32 xf, .string xg, .string xb] 28 (w.heap.size + 1) (by simp)).alloc (.cells #[.bool empty] 4)).alloc (.cells #[.slice none 0 0, .slice none 0 0] 25))
  have cx0 := x0.at 0 rfl
  have cx1 := x0.at 1 rfl
  have cx2 := x0.at 2 rfl
  have y0 : Blk ((((w.alloc (.cells #[.slice ra R.length rc, .slice aa A.length ac] 25)).alloc (.cells #[.int .u32 xf, .string xg, .string xb] 28)).alloc (.cells #[.bool empty] 4)).alloc (.cells #[.slice none 0 0, .slice none 0 0] 25)) (w.heap.size + 1 + 1) [.bool empty] := ((Blk.newAt ((w.alloc (.cells #[.slice ra R.length rc, .slice aa A.length ac] 25)).alloc (.cells #[.int .u32 xf, .string xg, .string xb] 28)) [.bool empty] 4 (w.heap.size + 1 + 1) (by simp)).alloc (.cells #[.slice none 0 0, .slice none 0 0] 25))
  have cy0 := y0.at 0 rfl
  have z0 : Blk ((((w.alloc (.cells #[.slice ra R.length rc, .slice aa A.length ac] 25)).alloc (.cells #[.int .u32 xf, .string xg, .string xb] 28)).alloc (.cells #[.bool empty] 4)).alloc (.cells #[.slice none 0 0, .slice none 0 0] 25)) (w.heap.size + 1 + 1 + 1) [.slice none 0 0, .slice none 0 0] := (Blk.newAt (((w.alloc (.cells #[.slice ra R.length rc, .slice aa A.length ac] 25)).alloc (.cells #[.int .u32 xf, .string xg, .string xb] 28)).alloc (.cells #[.bool empty] 4)) [.slice none 0 0, .slice none 0 0] 25 (w.heap.size + 1 + 1 + 1) (by simp))
  have cz0 := z0.at 0 rfl
  have cz1 := z0.at 1 rfl
  have hz0 : w.heap.size + 4 ≤ ((((w.alloc (.cells #[.slice ra R.length rc, .slice aa A.length ac] 25)).alloc (.cells #[.int .u32 xf, .string xg, .string xb] 28)).alloc (.cells #[.bool empty] 4)).alloc (.cells #[.slice none 0 0, .slice none 0 0] 25)).heap.size := by simp
  have hF : ∀ (args : Array Value) (u : World), (callFunc 83 args).run Try.prog u = .ok (.enter 83 args) u := fun _ _ => by kernel_rfl
  have hon := Lib.hid (on_any ((((w.alloc (.cells #[.slice ra R.length rc, .slice aa A.length ac] 25)).alloc (.cells #[.int .u32 xf, .string xg, .string xb] 28)).alloc (.cells #[.bool empty] 4)).alloc (.cells #[.slice none 0 0, .slice none 0 0] 25)) _ _ R A true (xf, xg, xb) 83 #[.pointer (some ⟨w.heap.size + 1, 0, none⟩), .pointer (some ⟨w.heap.size + 1 + 1, 0, none⟩)] (prepareD R A (xf, xg, xb) empty) (hR.pure hB0) (hA.pure hB0) hLR hLA hF (fun hTab hok hXid w1 tb rv1 av1 hB hpre => prep_do _ w1 tb rv1 av1 R A (w.heap.size + 1) (xf, xg, xb) (x0.below hB (by simp)) (by simp) (w.heap.size + 1 + 1) _ (y0.below hB (by simp)) (by simp) hpre hTab.1.2 hLR hLA))
  clear hF
  generalize hD : overB (mayB R A true (xf, xg, xb)) (prepareD R A (xf, xg, xb) empty) = D at hon ⊢
  clear hD
  go_enter Try.func26, Try.ntmps26
  go_wp2_with (first | (go_at_call 47; (with_reducible refine hon.out.mono ?_); rintro e w1 ⟨rv1, av1, rfl, hR1, hA1, hB1⟩; have z1 := z0.pure hB1; obtain ⟨ga, gc, rfl⟩ := own_len hR1; obtain ⟨ha, hc, rfl⟩ := own_len hA1; have f0 := z1.at 0 rfl; have f1 := z1.at 1 rfl; have f2 := z1.frozen 0; have f3 := z1.frozen 1; have hT1 := hB0.trans (hB1.mono hB0.size)))
  have rr := (z1.set 0 (.slice ga D.1.length gc)).set 1 (.slice ha D.2.1.length hc)
  have k0 := rr.at 0 rfl; have k1 := rr.at 1 rfl
  refine bodyPost_ret (by simp [results, Try.results26, go_sem, k0, k1]; rfl) rfl ?_
  refine ⟨_, _, rfl, ?_, ?_, ?_⟩
  · exact ((hR1.other _ _ (fun k hk e => by have := hR1.ge hk; rw [e] at this; simp at this; omega)).other _ _ (fun k hk e => by have := hR1.ge hk; rw [e] at this; simp at this; omega)).rebase (fun k hk => by have := hR1.ge hk; simp at this; omega)
  · exact ((hA1.other _ _ (fun k hk e => by have := hA1.ge hk; rw [e] at this; simp at this; omega)).other _ _ (fun k hk e => by have := hA1.ge hk; rw [e] at this; simp at this; omega)).rebase (fun k hk => by have := hA1.ge hk; simp at this; omega)
  · exact ((Upd.of_below hT1).trans (((Upd.set (S := fun k => w.heap.size + 3 = k) (p := ⟨w.heap.size + 1 + 1 + 1, 0, none⟩) rfl (.slice ga D.1.length gc)).trans (Upd.set (S := fun k => w.heap.size + 3 = k) (p := ⟨w.heap.size + 1 + 1 + 1, 1, none⟩) rfl (.slice ha D.2.1.length hc)) (fun _ h _ => h)).mono (T := fun k => w.heap.size ≤ k) (fun k h _ => by omega)) (fun _ h _ => h)).below (Nat.le_refl _) (fun k h => h)

set_option maxRecDepth 100000 in
set_option maxHeartbeats 1600000 in
theorem commit_fn (w : World) (rv av : Value) (R : List Brn) (A : List Asc) (x : Xid) (one : Bool) (hR : Slc brEnc 7 w rv R) (hA : Slc ascEnc 5 w av A) (hLR : R.length ≤ 1000000) (hLA : A.length ≤ 1000000) :
    Calls Try.prog 25 #[.agg #[rv, av], .agg #[.int .u32 x.1, .string x.2.1, .string x.2.2], .bool one] w (TabPost w (overB (mayB R A true x) (commitD R A x one))) := by
  have hmf : ∀ (fn : Fn) (first cap : Array Value) (w : World), (Instr.makeFunc fn first cap).run Try.prog w = .ok (.func fn first cap) w := fun _ _ _ _ => rfl
  obtain ⟨ra, rc, rfl, hm1⟩ := hR.len
  obtain ⟨aa, ac, rfl, hm2⟩ := hA.len
  obtain ⟨xf, xg, xb⟩ := x
  have hB0 : Below w.heap.size w ((((w.alloc (.cells #[.slice ra R.length rc, .slice aa A.length ac] 25)).alloc (.cells #[.int .u32 xf, .string xg, .string xb] 28)).alloc (.cells #[.bool one] 4)).alloc (.cells #[.slice none 0 0, .slice none 0 0] 25)) := (((((Below.refl _ _).alloc (Nat.le_refl _) _).alloc (by simp) _).alloc (by simp; omega) _).alloc (by simp; omega) _)
  have t0 : Blk ((((w.alloc (.cells #[.slice ra R.length rc, .slice aa A.length ac] 25)).alloc (.cells #[.int .u32 xf, .string xg, .string xb] 28)).alloc (.cells #[.bool one] 4)).alloc (.cells #[.slice none 0 0, .slice none 0 0] 25)) (w.heap.size) [.slice ra R.length rc, .slice aa A.length ac] := ((((Blk.newAt w [.slice ra R.length rc, .slice aa A.length ac] 25 (w.heap.size) (by simp)).alloc (.cells #[.int .u32 xf, .string xg, .string xb] 28)).alloc (.cells #[.bool one] 4)).alloc (.cells #[.slice none 0 0, .slice none 0 0] 25))
  have ct0 := t0.at 0 rfl
  have ct1 := t0.at 1 rfl
  have x0 : Blk ((((w.alloc (.cells #[.slice ra R.length rc, .slice aa A.length ac] 25)).alloc (.cells #[.int .u32 xf, .string xg, .string xb] 28)).alloc (.cells #[.bool one] 4)).alloc (.cells #[.slice none 0 0, .slice none 0 0] 25)) (w.heap.size + 1) [.int .u32 xf, .string xg, .string xb] := (((Blk.newAt (w.alloc (.cells #[.slice ra R.length rc, .slice aa A.length ac] 25)) [.int .u32 xf, .string xg, .string xb] 28 (w.heap.size + 1) (by simp)).alloc (.cells #[.bool one] 4)).alloc (.cells #[.slice none 0 0, .slice none 0 0] 25))
  have cx0 := x0.at 0 rfl
  have cx1 := x0.at 1 rfl
  have cx2 := x0.at 2 rfl
  have y0 : Blk ((((w.alloc (.cells #[.slice ra R.length rc, .slice aa A.length ac] 25)).alloc (.cells #[.int .u32 xf, .string xg, .string xb] 28)).alloc (.cells #[.bool one] 4)).alloc (.cells #[.slice none 0 0, .slice none 0 0] 25)) (w.heap.size + 1 + 1) [.bool one] := ((Blk.newAt ((w.alloc (.cells #[.slice ra R.length rc, .slice aa A.length ac] 25)).alloc (.cells #[.int .u32 xf, .string xg, .string xb] 28)) [.bool one] 4 (w.heap.size + 1 + 1) (by simp)).alloc (.cells #[.slice none 0 0, .slice none 0 0] 25))
  have cy0 := y0.at 0 rfl
  have z0 : Blk ((((w.alloc (.cells #[.slice ra R.length rc, .slice aa A.length ac] 25)).alloc (.cells #[.int .u32 xf, .string xg, .string xb] 28)).alloc (.cells #[.bool one] 4)).alloc (.cells #[.slice none 0 0, .slice none 0 0] 25)) (w.heap.size + 1 + 1 + 1) [.slice none 0 0, .slice none 0 0] := (Blk.newAt (((w.alloc (.cells #[.slice ra R.length rc, .slice aa A.length ac] 25)).alloc (.cells #[.int .u32 xf, .string xg, .string xb] 28)).alloc (.cells #[.bool one] 4)) [.slice none 0 0, .slice none 0 0] 25 (w.heap.size + 1 + 1 + 1) (by simp))
  have cz0 := z0.at 0 rfl
  have cz1 := z0.at 1 rfl
  have hz0 : w.heap.size + 4 ≤ ((((w.alloc (.cells #[.slice ra R.length rc, .slice aa A.length ac] 25)).alloc (.cells #[.int .u32 xf, .string xg, .string xb] 28)).alloc (.cells #[.bool one] 4)).alloc (.cells #[.slice none 0 0, .slice none 0 0] 25)).heap.size := by simp
  have hF : ∀ (args : Array Value) (u : World), (callFunc 79 args).run Try.prog u = .ok (.enter 79 args) u := fun _ _ => by kernel_rfl
  have hon := Lib.hid (on_any ((((w.alloc (.cells #[.slice ra R.length rc, .slice aa A.length ac] 25)).alloc (.cells #[.int .u32 xf, .string xg, .string xb] 28)).alloc (.cells #[.bool one] 4)).alloc (.cells #[.slice none 0 0, .slice none 0 0] 25)) _ _ R A true (xf, xg, xb) 79 #[.pointer (some ⟨w.heap.size + 1, 0, none⟩), .pointer (some ⟨w.heap.size + 1 + 1, 0, none⟩)] (commitD R A (xf, xg, xb) one) (hR.pure hB0) (hA.pure hB0) hLR hLA hF (fun hTab hok hXid w1 tb rv1 av1 hB hpre => commit_do _ w1 tb rv1 av1 R A (w.heap.size + 1) (xf, xg, xb) (x0.below hB (by simp)) (by simp) (w.heap.size + 1 + 1) _ (y0.below hB (by simp)) (by simp) hpre hTab.1.2 hLR hLA))
  clear hF
  generalize hD : overB (mayB R A true (xf, xg, xb)) (commitD R A (xf, xg, xb) one) = D at hon ⊢
  clear hD
  go_enter Try.func25, Try.ntmps25
  go_wp2_with (first | (go_at_call 47; (with_reducible refine hon.out.mono ?_); rintro e w1 ⟨rv1, av1, rfl, hR1, hA1, hB1⟩; have z1 := z0.pure hB1; obtain ⟨ga, gc, rfl⟩ := own_len hR1; obtain ⟨ha, hc, rfl⟩ := own_len hA1; have f0 := z1.at 0 rfl; have f1 := z1.at 1 rfl; have f2 := z1.frozen 0; have f3 := z1.frozen 1; have hT1 := hB0.trans (hB1.mono hB0.size)))
  have rr := (z1.set 0 (.slice ga D.1.length gc)).set 1 (.slice ha D.2.1.length hc)
  have k0 := rr.at 0 rfl; have k1 := rr.at 1 rfl
  refine bodyPost_ret (by simp [results, Try.results25, go_sem, k0, k1]; rfl) rfl ?_
  refine ⟨_, _, rfl, ?_, ?_, ?_⟩
  · exact ((hR1.other _ _ (fun k hk e => by have := hR1.ge hk; rw [e] at this; simp at this; omega)).other _ _ (fun k hk e => by have := hR1.ge hk; rw [e] at this; simp at this; omega)).rebase (fun k hk => by have := hR1.ge hk; simp at this; omega)
  · exact ((hA1.other _ _ (fun k hk e => by have := hA1.ge hk; rw [e] at this; simp at this; omega)).other _ _ (fun k hk e => by have := hA1.ge hk; rw [e] at this; simp at this; omega)).rebase (fun k hk => by have := hA1.ge hk; simp at this; omega)
  · exact ((Upd.of_below hT1).trans (((Upd.set (S := fun k => w.heap.size + 3 = k) (p := ⟨w.heap.size + 1 + 1 + 1, 0, none⟩) rfl (.slice ga D.1.length gc)).trans (Upd.set (S := fun k => w.heap.size + 3 = k) (p := ⟨w.heap.size + 1 + 1 + 1, 1, none⟩) rfl (.slice ha D.2.1.length hc)) (fun _ h _ => h)).mono (T := fun k => w.heap.size ≤ k) (fun k h _ => by omega)) (fun _ h _ => h)).below (Nat.le_refl _) (fun k h => h)

set_option maxRecDepth 100000 in
set_option maxHeartbeats 1600000 in
theorem rollback_fn (w : World) (rv av : Value) (R : List Brn) (A : List Asc) (x : Xid) (hR : Slc brEnc 7 w rv R) (hA : Slc ascEnc 5 w av A) (hLR : R.length ≤ 1000000) (hLA : A.length ≤ 1000000) :
    Calls Try.prog 29 #[.agg #[rv, av], .agg #[.int .u32 x.1, .string x.2.1, .string x.2.2]] w (TabPost w (overB (mayB R A true x) (rollbackD R A x))) := by
  have hmf : ∀ (fn : Fn) (first cap : Array Value) (w : World), (Instr.makeFunc fn first cap).run Try.prog w = .ok (.func fn first cap) w := fun _ _ _ _ => rfl
  obtain ⟨ra, rc, rfl, hm1⟩ := hR.len
  obtain ⟨aa, ac, rfl, hm2⟩ := hA.len
  obtain ⟨xf, xg, xb⟩ := x
  have hB0 : Below w.heap.size w (((w.alloc (.cells #[.slice ra R.length rc, .slice aa A.length ac] 25)).alloc (.cells #[.int .u32 xf, .string xg, .string xb] 28)).alloc (.cells #[.slice none 0 0, .slice none 0 0] 25)) := ((((Below.refl _ _).alloc (Nat.le_refl _) _).alloc (by simp) _).alloc (by simp; omega) _)
  have t0 : Blk (((w.alloc (.cells #[.slice ra R.length rc, .slice aa A.length ac] 25)).alloc (.cells #[.int .u32 xf, .string xg, .string xb] 28)).alloc (.cells #[.slice none 0 0, .slice none 0 0] 25)) (w.heap.size) [.slice ra R.length rc, .slice aa A.length ac] := (((Blk.newAt w [.slice ra R.length rc, .slice aa A.length ac] 25 (w.heap.size) (by simp)).alloc (.cells #[.int .u32 xf, .string xg, .string xb] 28)).alloc (.cells #[.slice none 0 0, .slice none 0 0] 25))
  have ct0 := t0.at 0 rfl
  have ct1 := t0.at 1 rfl
  have x0 : Blk (((w.alloc (.cells #[.slice ra R.length rc, .slice aa A.length ac] 25)).alloc (.cells #[.int .u32 xf, .string xg, .string xb] 28)).alloc (.cells #[.slice none 0 0, .slice none 0 0] 25)) (w.heap.size + 1) [.int .u32 xf, .string xg, .string xb] := ((Blk.newAt (w.alloc (.cells #[.slice ra R.length rc, .slice aa A.length ac] 25)) [.int .u32 xf, .string xg, .string xb] 28 (w.heap.size + 1) (by simp)).alloc (.cells #[.slice none 0 0, .slice none 0 0] 25))
  have cx0 := x0.at 0 rfl
  have cx1 := x0.at 1 rfl
  have cx2 := x0.at 2 rfl
  have y0 : Blk (((w.alloc (.cells #[.slice ra R.length rc, .slice aa A.length ac] 25)).alloc (.cells #[.int .u32 xf, .string xg, .string xb] 28)).alloc (.cells #[.slice none 0 0, .slice none 0 0] 25)) (w.heap.size + 1 + 1) [.slice none 0 0, .slice none 0 0] := (Blk.newAt ((w.alloc (.cells #[.slice ra R.length rc, .slice aa A.length ac] 25)).alloc (.cells #[.int .u32 xf, .string xg, .string xb] 28)) [.slice none 0 0, .slice none 0 0] 25 (w.heap.size + 1 + 1) (by simp))
  have cy0 := y0.at 0 rfl
  have cy1 := y0.at 1 rfl
  have hz0 : w.heap.size + 3 ≤ (((w.alloc (.cells #[.slice ra R.length rc, .slice aa A.length ac] 25)).alloc (.cells #[.int .u32 xf, .string xg, .string xb] 28)).alloc (.cells #[.slice none 0 0, .slice none 0 0] 25)).heap.size := by simp
  have hF : ∀ (args : Array Value) (u : World), (callFunc 87 args).run Try.prog u = .ok (.enter 87 args) u := fun _ _ => by kernel_rfl
  have hon := Lib.hid (on_any (((w.alloc (.cells #[.slice ra R.length rc, .slice aa A.length ac] 25)).alloc (.cells #[.int .u32 xf, .string xg, .string xb] 28)).alloc (.cells #[.slice none 0 0, .slice none 0 0] 25)) _ _ R A true (xf, xg, xb) 87 #[.pointer (some ⟨w.heap.size + 1, 0, none⟩)] (rollbackD R A (xf, xg, xb)) (hR.pure hB0) (hA.pure hB0) hLR hLA hF (fun hTab hok hXid w1 tb rv1 av1 hB hpre => rollback_do _ w1 tb rv1 av1 R A (w.heap.size + 1) (xf, xg, xb) (x0.below hB (by simp)) (by simp) hpre hTab.1.2 hLR hLA))
  clear hF
  generalize hD : overB (mayB R A true (xf, xg, xb)) (rollbackD R A (xf, xg, xb)) = D at hon ⊢
  clear hD
  go_enter Try.func29, Try.ntmps29
  go_wp2_with (first | (go_at_call 47; (with_reducible refine hon.out.mono ?_); rintro e w1 ⟨rv1, av1, rfl, hR1, hA1, hB1⟩; have y1 := y0.pure hB1; obtain ⟨ga, gc, rfl⟩ := own_len hR1; obtain ⟨ha, hc, rfl⟩ := own_len hA1; have f0 := y1.at 0 rfl; have f1 := y1.at 1 rfl; have f2 := y1.frozen 0; have f3 := y1.frozen 1; have hT1 := hB0.trans (hB1.mono hB0.size)))
  have rr := (y1.set 0 (.slice ga D.1.length gc)).set 1 (.slice ha D.2.1.length hc)
  have k0 := rr.at 0 rfl; have k1 := rr.at 1 rfl
  refine bodyPost_ret (by simp [results, Try.results29, go_sem, k0, k1]; rfl) rfl ?_
  refine ⟨_, _, rfl, ?_, ?_, ?_⟩
  · exact ((hR1.other _ _ (fun k hk e => by have := hR1.ge hk; rw [e] at this; simp at this; omega)).other _ _ (fun k hk e => by have := hR1.ge hk; rw [e] at this; simp at this; omega)).rebase (fun k hk => by have := hR1.ge hk; simp at this; omega)
  · exact ((hA1.other _ _ (fun k hk e => by have := hA1.ge hk; rw [e] at this; simp at this; omega)).other _ _ (fun k hk e => by have := hA1.ge hk; rw [e] at this; simp at this; omega)).rebase (fun k hk => by have := hA1.ge hk; simp at this; omega)
  · exact ((Upd.of_below hT1).trans (((Upd.set (S := fun k => w.heap.size + 2 = k) (p := ⟨w.heap.size + 1 + 1, 0, none⟩) rfl (.slice ga D.1.length gc)).trans (Upd.set (S := fun k => w.heap.size + 2 = k) (p := ⟨w.heap.size + 1 + 1, 1, none⟩) rfl (.slice ha D.2.1.length hc)) (fun _ h _ => h)).mono (T := fun k => w.heap.size ≤ k) (fun k h _ => by omega)) (fun _ h _ => h)).below (Nat.le_refl _) (fun k h => h)

set_option maxRecDepth 100000 in
set_option maxHeartbeats 1600000 in
theorem forget_fn (w : World) (rv av : Value) (R : List Brn) (A : List Asc) (x : Xid) (hR : Slc brEnc 7 w rv R) (hA : Slc ascEnc 5 w av A) (hLR : R.length ≤ 1000000) (hLA : A.length ≤ 1000000) :
    Calls Try.prog 31 #[.agg #[rv, av], .agg #[.int .u32 x.1, .string x.2.1, .string x.2.2]] w (TabPost w (overB (mayB R A true x) (forgetD R A x))) := by
  have hmf : ∀ (fn : Fn) (first cap : Array Value) (w : World), (Instr.makeFunc fn first cap).run Try.prog w = .ok (.func fn first cap) w := fun _ _ _ _ => rfl
  obtain ⟨ra, rc, rfl, hm1⟩ := hR.len
  obtain ⟨aa, ac, rfl, hm2⟩ := hA.len
  obtain ⟨xf, xg, xb⟩ := x
  have hB0 : Below w.heap.size w (((w.alloc (.cells #[.slice ra R.length rc, .slice aa A.length ac] 25)).alloc (.cells #[.int .u32 xf, .string xg, .string xb] 28)).alloc (.cells #[.slice none 0 0, .slice none 0 0] 25)) := ((((Below.refl _ _).alloc (Nat.le_refl _) _).alloc (by simp) _).alloc (by simp; omega) _)
  have t0 : Blk (((w.alloc (.cells #[.slice ra R.length rc, .slice aa A.length ac] 25)).alloc (.cells #[.int .u32 xf, .string xg, .string xb] 28)).alloc (.cells #[.slice none 0 0, .slice none 0 0] 25)) (w.heap.size) [.slice ra R.length rc, .slice aa A.length ac] := (((Blk.newAt w [.slice ra R.length rc, .slice aa A.length ac] 25 (w.heap.size) (by simp)).alloc (.cells #[.int .u32 xf, .string xg, .string xb] 28)).alloc (.cells #[.slice none 0 0, .slice none 0 0] 25))
  have ct0 := t0.at 0 rfl
  have ct1 := t0.at 1 rfl
  have x0 : Blk (((w.alloc (.cells #[.slice ra R.length rc, .slice aa A.length ac] 25)).alloc (.cells #[.int .u32 xf, .string xg, .string xb] 28)).alloc (.cells #[.slice none 0 0, .slice none 0 0] 25)) (w.heap.size + 1) [.int .u32 xf, .string xg, .string xb] := ((Blk.newAt (w.alloc (.cells #[.slice ra R.length rc, .slice aa A.length ac] 25)) [.int .u32 xf, .string xg, .string xb] 28 (w.heap.size + 1) (by simp)).alloc (.cells #[.slice none 0 0, .slice none 0 0] 25))
  have cx0 := x0.at 0 rfl
  have cx1 := x0.at 1 rfl
  have cx2 := x0.at 2 rfl
  have y0 : Blk (((w.alloc (.cells #[.slice ra R.length rc, .slice aa A.length ac] 25)).alloc (.cells #[.int .u32 xf, .string xg, .string xb] 28)).alloc (.cells #[.slice none 0 0, .slice none 0 0] 25)) (w.heap.size + 1 + 1) [.slice none 0 0, .slice none 0 0] := (Blk.newAt ((w.alloc (.cells #[.slice ra R.length rc, .slice aa A.length ac] 25)).alloc (.cells #[.int .u32 xf, .string xg, .string xb] 28)) [.slice none 0 0, .slice none 0 0] 25 (w.heap.size + 1 + 1) (by simp))
  have cy0 := y0.at 0 rfl
  have cy1 := y0.at 1 rfl
  have hz0 : w.heap.size + 3 ≤ (((w.alloc (.cells #[.slice ra R.length rc, .slice aa A.length ac] 25)).alloc (.cells #[.int .u32 xf, .string xg, .string xb] 28)).alloc (.cells #[.slice none 0 0, .slice none 0 0] 25)).heap.size := by simp
  have hF : ∀ (args : Array Value) (u : World), (callFunc 88 args).run Try.prog u = .ok (.enter 88 args) u := fun _ _ => by kernel_rfl
  have hon := Lib.hid (on_any (((w.alloc (.cells #[.slice ra R.length rc, .slice aa A.length ac] 25)).alloc (.cells #[.int .u32 xf, .string xg, .string xb] 28)).alloc (.cells #[.slice none 0 0, .slice none 0 0] 25)) _ _ R A true (xf, xg, xb) 88 #[.pointer (some ⟨w.heap.size + 1, 0, none⟩)] (forgetD R A (xf, xg, xb)) (hR.pure hB0) (hA.pure hB0) hLR hLA hF (fun hTab hok hXid w1 tb rv1 av1 hB hpre => forget_do _ w1 tb rv1 av1 R A (w.heap.size + 1) (xf, xg, xb) (x0.below hB (by simp)) (by simp) hpre hTab.1.2 hLR hLA))
  clear hF
  generalize hD : overB (mayB R A true (xf, xg, xb)) (forgetD R A (xf, xg, xb)) = D at hon ⊢
  clear hD
  go_enter Try.func31, Try.ntmps31
  go_wp2_with (first | (go_at_call 47; (with_reducible refine hon.out.mono ?_); rintro e w1 ⟨rv1, av1, rfl, hR1, hA1, hB1⟩; have y1 := y0.pure hB1; obtain ⟨ga, gc, rfl⟩ := own_len hR1; obtain ⟨ha, hc, rfl⟩ := own_len hA1; have f0 := y1.at 0 rfl; have f1 := y1.at 1 rfl; have f2 := y1.frozen 0; have f3 := y1.frozen 1; have hT1 := hB0.trans (hB1.mono hB0.size)))
  have rr := (y1.set 0 (.slice ga D.1.length gc)).set 1 (.slice ha D.2.1.length hc)
  have k0 := rr.at 0 rfl; have k1 := rr.at 1 rfl
  refine bodyPost_ret (by simp [results, Try.results31, go_sem, k0, k1]; rfl) rfl ?_
  refine ⟨_, _, rfl, ?_, ?_, ?_⟩
  · exact ((hR1.other _ _ (fun k hk e => by have := hR1.ge hk; rw [e] at this; simp at this; omega)).other _ _ (fun k hk e => by have := hR1.ge hk; rw [e] at this; simp at this; omega)).rebase (fun k hk => by have := hR1.ge hk; simp at this; omega)
  · exact ((hA1.other _ _ (fun k hk e => by have := hA1.ge hk; rw [e] at this; simp at this; omega)).other _ _ (fun k hk e => by have := hA1.ge hk; rw [e] at this; simp at this; omega)).rebase (fun k hk => by have := hA1.ge hk; simp at this; omega)
  · exact ((Upd.of_below hT1).trans (((Upd.set (S := fun k => w.heap.size + 2 = k) (p := ⟨w.heap.size + 1 + 1, 0, none⟩) rfl (.slice ga D.1.length gc)).trans (Upd.set (S := fun k => w.heap.size + 2 = k) (p := ⟨w.heap.size + 1 + 1, 1, none⟩) rfl (.slice ha D.2.1.length hc)) (fun _ h _ => h)).mono (T := fun k => w.heap.size ≤ k) (fun k h _ => by omega)) (fun _ h _ => h)).below (Nat.le_refl _) (fun k h => h)

set_option maxRecDepth 100000 in
set_option maxHeartbeats 1600000 in
theorem decide_fn (w : World) (rv av : Value) (R : List Brn) (A : List Asc) (x : Xid) (commit : Bool) (hR : Slc brEnc 7 w rv R) (hA : Slc ascEnc 5 w av A) (hLR : R.length ≤ 1000000) (hLA : A.length ≤ 1000000) :
    Calls Try.prog 33 #[.agg #[rv, av], .agg #[.int .u32 x.1, .string x.2.1, .string x.2.2], .bool commit] w (TabPost2 w (overB (mayB R A true x) (decideD R A x commit))) := by
  have hmf : ∀ (fn : Fn) (first cap : Array Value) (w : World), (Instr.makeFunc fn first cap).run Try.prog w = .ok (.func fn first cap) w := fun _ _ _ _ => rfl
  obtain ⟨ra, rc, rfl, hm1⟩ := hR.len
  obtain ⟨aa, ac, rfl, hm2⟩ := hA.len
  obtain ⟨xf, xg, xb⟩ := x
  have hB0 : Below w.heap.size w ((((w.alloc (.cells #[.slice ra R.length rc, .slice aa A.length ac] 25)).alloc (.cells #[.int .u32 xf, .string xg, .string xb] 28)).alloc (.cells #[.bool commit] 4)).alloc (.cells #[.slice none 0 0, .slice none 0 0] 25)) := (((((Below.refl _ _).alloc (Nat.le_refl _) _).alloc (by simp) _).alloc (by simp; omega) _).alloc (by simp; omega) _)
  have t0 : Blk ((((w.alloc (.cells #[.slice ra R.length rc, .slice aa A.length ac] 25)).alloc (.cells #[.int .u32 xf, .string xg, .string xb] 28)).alloc (.cells #[.bool commit] 4)).alloc (.cells #[.slice none 0 0, .slice none 0 0] 25)) (w.heap.size) [.slice ra R.length rc, .slice aa A.length ac] := ((((Blk.newAt w [.slice ra R.length rc, .slice aa A.length ac] 25 (w.heap.size) (by simp)).alloc (.cells #[.int .u32 xf, .string xg, .string xb] 28)).alloc (.cells #[.bool commit] 4)).alloc (.cells #[.slice none 0 0, .slice none 0 0] 25))
  have ct0 := t0.at 0 rfl
  have ct1 := t0.at 1 rfl
  have x0 : Blk ((((w.alloc (.cells #[.slice ra R.length rc, .slice aa A.length ac] 25)).alloc (.cells #[.int .u32 xf, .string xg, .string xb] 28)).alloc (.cells #[.bool commit] 4)).alloc (.cells #[.slice none 0 0, .slice none 0 0] 25)) (w.heap.size + 1) [.int .u32 xf, .string xg, .string xb] := (((Blk.newAt (w.alloc (.cells #[.slice ra R.length rc, .slice aa A.length ac] 25)) [.int .u32 xf, .string xg, .string xb] 28 (w.heap.size + 1) (by simp)).alloc (.cells #[.bool commit] 4)).alloc (.cells #[.slice none 0 0, .slice none 0 0] 25))
  have cx0 := x0.at 0 rfl
  have cx1 := x0.at 1 rfl
  have cx2 := x0.at 2 rfl
  have y0 : Blk ((((w.alloc (.cells #[.slice ra R.length rc, .slice aa A.length ac] 25)).alloc (.cells #[.int .u32 xf, .string xg, .string xb] 28)).alloc (.cells #[.bool commit] 4)).alloc (.cells #[.slice none 0 0, .slice none 0 0] 25)) (w.heap.size + 1 + 1) [.bool commit] := ((Blk.newAt ((w.alloc (.cells #[.slice ra R.length rc, .slice aa A.length ac] 25)).alloc (.cells #[.int .u32 xf, .string xg, .string xb] 28)) [.bool commit] 4 (w.heap.size + 1 + 1) (by simp)).alloc (.cells #[.slice none 0 0, .slice none 0 0] 25))
  have cy0 := y0.at 0 rfl
  have z0 : Blk ((((w.alloc (.cells #[.slice ra R.length rc, .slice aa A.length ac] 25)).alloc (.cells #[.int .u32 xf, .string xg, .string xb] 28)).alloc (.cells #[.bool commit] 4)).alloc (.cells #[.slice none 0 0, .slice none 0 0] 25)) (w.heap.size + 1 + 1 + 1) [.slice none 0 0, .slice none 0 0] := (Blk.newAt (((w.alloc (.cells #[.slice ra R.length rc, .slice aa A.length ac] 25)).alloc (.cells #[.int .u32 xf, .string xg, .string xb] 28)).alloc (.cells #[.bool commit] 4)) [.slice none 0 0, .slice none 0 0] 25 (w.heap.size + 1 + 1 + 1) (by simp))
  have cz0 := z0.at 0 rfl
  have cz1 := z0.at 1 rfl
  have hz0 : w.heap.size + 4 ≤ ((((w.alloc (.cells #[.slice ra R.length rc, .slice aa A.length ac] 25)).alloc (.cells #[.int .u32 xf, .string xg, .string xb] 28)).alloc (.cells #[.bool commit] 4)).alloc (.cells #[.slice none 0 0, .slice none 0 0] 25)).heap.size := by simp
  have hF : ∀ (args : Array Value) (u : World), (callFunc 89 args).run Try.prog u = .ok (.enter 89 args) u := fun _ _ => by kernel_rfl
  have hon := Lib.hid (on_any ((((w.alloc (.cells #[.slice ra R.length rc, .slice aa A.length ac] 25)).alloc (.cells #[.int .u32 xf, .string xg, .string xb] 28)).alloc (.cells #[.bool commit] 4)).alloc (.cells #[.slice none 0 0, .slice none 0 0] 25)) _ _ R A true (xf, xg, xb) 89 #[.pointer (some ⟨w.heap.size + 1, 0, none⟩), .pointer (some ⟨w.heap.size + 1 + 1, 0, none⟩)] (decideD R A (xf, xg, xb) commit) (hR.pure hB0) (hA.pure hB0) hLR hLA hF (fun hTab hok hXid w1 tb rv1 av1 hB hpre => decide_do _ w1 tb rv1 av1 R A (w.heap.size + 1) (xf, xg, xb) (x0.below hB (by simp)) (by simp) (w.heap.size + 1 + 1) _ (y0.below hB (by simp)) (by simp) hpre hTab.1.2 hLR hLA))
  clear hF
  generalize hD : overB (mayB R A true (xf, xg, xb)) (decideD R A (xf, xg, xb) commit) = D at hon ⊢
  clear hD
  go_enter Try.func33, Try.ntmps33
  go_wp2_with (first | (go_at_call 47; (with_reducible refine hon.out.mono ?_); rintro e w1 ⟨rv1, av1, rfl, hR1, hA1, hB1⟩; have z1 := z0.pure hB1; obtain ⟨ga, gc, rfl⟩ := own_len hR1; obtain ⟨ha, hc, rfl⟩ := own_len hA1; have f0 := z1.at 0 rfl; have f1 := z1.at 1 rfl; have f2 := z1.frozen 0; have f3 := z1.frozen 1; have hT1 := hB0.trans (hB1.mono hB0.size); have hAl := (Below.refl w1.heap.size w1).alloc (Nat.le_refl _) (.cells #[.slice ga D.1.length gc, .slice ha D.2.1.length hc] 25); have r2 := z1.pure hAl; have b2 := Blk.new w1 [.slice ga D.1.length gc, .slice ha D.2.1.length hc] 25; have g0 := b2.at 0 rfl; have g1 := b2.at 1 rfl; have g2 := r2.at 0 rfl; have g3 := r2.at 1 rfl; have g4 := r2.frozen 0; have g5 := r2.frozen 1; have hT2 := hT1.trans (hAl.mono hT1.size); have hR2 := hR1.pure hAl; have hA2 := hA1.pure hAl))
  have rr := (r2.set 0 (.slice ga D.1.length gc)).set 1 (.slice ha D.2.1.length hc)
  have k0 := rr.at 0 rfl; have k1 := rr.at 1 rfl
  refine bodyPost_ret (by simp [results, Try.results33, go_sem, k0, k1]; rfl) rfl ?_
  refine ⟨_, _, rfl, ?_, ?_, ?_⟩
  · exact ((hR2.other _ _ (fun k hk e => by have := hR2.ge hk; rw [e] at this; simp at this; omega)).other _ _ (fun k hk e => by have := hR2.ge hk; rw [e] at this; simp at this; omega)).rebase (fun k hk => by have := hR2.ge hk; simp at this; omega)
  · exact ((hA2.other _ _ (fun k hk e => by have := hA2.ge hk; rw [e] at this; simp at this; omega)).other _ _ (fun k hk e => by have := hA2.ge hk; rw [e] at this; simp at this; omega)).rebase (fun k hk => by have := hA2.ge hk; simp at this; omega)
  · exact ((Upd.of_below hT2).trans (((Upd.set (S := fun k => w.heap.size + 3 = k) (p := ⟨w.heap.size + 1 + 1 + 1, 0, none⟩) rfl (.slice ga D.1.length gc)).trans (Upd.set (S := fun k => w.heap.size + 3 = k) (p := ⟨w.heap.size + 1 + 1 + 1, 1, none⟩) rfl (.slice ha D.2.1.length hc)) (fun _ h _ => h)).mono (T := fun k => w.heap.size ≤ k) (fun k h _ => by omega)) (fun _ h _ => h)).below (Nat.le_refl _) (fun k h => h)

set_option maxRecDepth 100000 in
set_option maxHeartbeats 1600000 in
theorem spoil_fn (w : World) (rv av : Value) (R : List Brn) (A : List Asc) (x : Xid) (hR : Slc brEnc 7 w rv R) (hA : Slc ascEnc 5 w av A) (hLR : R.length ≤ 1000000) (hLA : A.length ≤ 1000000) :
    Calls Try.prog 35 #[.agg #[rv, av], .agg #[.int .u32 x.1, .string x.2.1, .string x.2.2]] w (TabPost2 w (overB (mayB R A true x) (spoilD R A x))) := by
  have hmf : ∀ (fn : Fn) (first cap : Array Value) (w : World), (Instr.makeFunc fn first cap).run Try.prog w = .ok (.func fn first cap) w := fun _ _ _ _ => rfl
  obtain ⟨ra, rc, rfl, hm1⟩ := hR.len
  obtain ⟨aa, ac, rfl, hm2⟩ := hA.len
  obtain ⟨xf, xg, xb⟩ := x
  have hB0 : Below w.heap.size w (((w.alloc (.cells #[.slice ra R.length rc, .slice aa A.length ac] 25)).alloc (.cells #[.int .u32 xf, .string xg, .string xb] 28)).alloc (.cells #[.slice none 0 0, .slice none 0 0] 25)) := ((((Below.refl _ _).alloc (Nat.le_refl _) _).alloc (by simp) _).alloc (by simp; omega) _)
  have t0 : Blk (((w.alloc (.cells #[.slice ra R.length rc, .slice aa A.length ac] 25)).alloc (.cells #[.int .u32 xf, .string xg, .string xb] 28)).alloc (.cells #[.slice none 0 0, .slice none 0 0] 25)) (w.heap.size) [.slice ra R.length rc, .slice aa A.length ac] := (((Blk.newAt w [.slice ra R.length rc, .slice aa A.length ac] 25 (w.heap.size) (by simp)).alloc (.cells #[.int .u32 xf, .string xg, .string xb] 28)).alloc (.cells #[.slice none 0 0, .slice none 0 0] 25))
  have ct0 := t0.at 0 rfl
  have ct1 := t0.at 1 rfl
  have x0 : Blk (((w.alloc (.cells #[.slice ra R.length rc, .slice aa A.length ac] 25)).alloc (.cells #[.int .u32 xf, .string xg, .string xb] 28)).alloc (.cells #[.slice none 0 0, .slice none 0 0] 25)) (w.heap.size + 1) [.int .u32 xf, .string xg, .string xb] := ((Blk.newAt (w.alloc (.cells #[.slice ra R.length rc, .slice aa A.length ac] 25)) [.int .u32 xf, .string xg, .string xb] 28 (w.heap.size + 1) (by simp)).alloc (.cells #[.slice none 0 0, .slice none 0 0] 25))
  have cx0 := x0.at 0 rfl
  have cx1 := x0.at 1 rfl
  have cx2 := x0.at 2 rfl
  have y0 : Blk (((w.alloc (.cells #[.slice ra R.length rc, .slice aa A.length ac] 25)).alloc (.cells #[.int .u32 xf, .string xg, .string xb] 28)).alloc (.cells #[.slice none 0 0, .slice none 0 0] 25)) (w.heap.size + 1 + 1) [.slice none 0 0, .slice none 0 0] := (Blk.newAt ((w.alloc (.cells #[.slice ra R.length rc, .slice aa A.length ac] 25)).alloc (.cells #[.int .u32 xf, .string xg, .string xb] 28)) [.slice none 0 0, .slice none 0 0] 25 (w.heap.size + 1 + 1) (by simp))
  have cy0 := y0.at 0 rfl
  have cy1 := y0.at 1 rfl
  have hz0 : w.heap.size + 3 ≤ (((w.alloc (.cells #[.slice ra R.length rc, .slice aa A.length ac] 25)).alloc (.cells #[.int .u32 xf, .string xg, .string xb] 28)).alloc (.cells #[.slice none 0 0, .slice none 0 0] 25)).heap.size := by simp
  have hF : ∀ (args : Array Value) (u : World), (callFunc 90 args).run Try.prog u = .ok (.enter 90 args) u := fun _ _ => by kernel_rfl
  have hon := Lib.hid (on_any (((w.alloc (.cells #[.slice ra R.length rc, .slice aa A.length ac] 25)).alloc (.cells #[.int .u32 xf, .string xg, .string xb] 28)).alloc (.cells #[.slice none 0 0, .slice none 0 0] 25)) _ _ R A true (xf, xg, xb) 90 #[.pointer (some ⟨w.heap.size + 1, 0, none⟩)] (spoilD R A (xf, xg, xb)) (hR.pure hB0) (hA.pure hB0) hLR hLA hF (fun hTab hok hXid w1 tb rv1 av1 hB hpre => spoil_do _ w1 tb rv1 av1 R A (w.heap.size + 1) (xf, xg, xb) (x0.below hB (by simp)) (by simp) hpre hTab.1.2 hLR hLA))
  clear hF
  generalize hD : overB (mayB R A true (xf, xg, xb)) (spoilD R A (xf, xg, xb)) = D at hon ⊢
  clear hD
  go_enter Try.func35, Try.ntmps35
  go_wp2_with (first | (go_at_call 47; (with_reducible refine hon.out.mono ?_); rintro e w1 ⟨rv1, av1, rfl, hR1, hA1, hB1⟩; have y1 := y0.pure hB1; obtain ⟨ga, gc, rfl⟩ := own_len hR1; obtain ⟨ha, hc, rfl⟩ := own_len hA1; have f0 := y1.at 0 rfl; have f1 := y1.at 1 rfl; have f2 := y1.frozen 0; have f3 := y1.frozen 1; have hT1 := hB0.trans (hB1.mono hB0.size); have hAl := (Below.refl w1.heap.size w1).alloc (Nat.le_refl _) (.cells #[.slice ga D.1.length gc, .slice ha D.2.1.length hc] 25); have r2 := y1.pure hAl; have b2 := Blk.new w1 [.slice ga D.1.length gc, .slice ha D.2.1.length hc] 25; have g0 := b2.at 0 rfl; have g1 := b2.at 1 rfl; have g2 := r2.at 0 rfl; have g3 := r2.at 1 rfl; have g4 := r2.frozen 0; have g5 := r2.frozen 1; have hT2 := hT1.trans (hAl.mono hT1.size); have hR2 := hR1.pure hAl; have hA2 := hA1.pure hAl))
  have rr := (r2.set 0 (.slice ga D.1.length gc)).set 1 (.slice ha D.2.1.length hc)
  have k0 := rr.at 0 rfl; have k1 := rr.at 1 rfl
  refine bodyPost_ret (by simp [results, Try.results35, go_sem, k0, k1]; rfl) rfl ?_
  refine ⟨_, _, rfl, ?_, ?_, ?_⟩
  · exact ((hR2.other _ _ (fun k hk e => by have := hR2.ge hk; rw [e] at this; simp at this; omega)).other _ _ (fun k hk e => by have := hR2.ge hk; rw [e] at this; simp at this; omega)).rebase (fun k hk => by have := hR2.ge hk; simp at this; omega)
  · exact ((hA2.other _ _ (fun k hk e => by have := hA2.ge hk; rw [e] at this; simp at this; omega)).other _ _ (fun k hk e => by have := hA2.ge hk; rw [e] at this; simp at this; omega)).rebase (fun k hk => by have := hA2.ge hk; simp at this; omega)
  · exact ((Upd.of_below hT2).trans (((Upd.set (S := fun k => w.heap.size + 2 = k) (p := ⟨w.heap.size + 1 + 1, 0, none⟩) rfl (.slice ga D.1.length gc)).trans (Upd.set (S := fun k => w.heap.size + 2 = k) (p := ⟨w.heap.size + 1 + 1, 1, none⟩) rfl (.slice ha D.2.1.length hc)) (fun _ h _ => h)).mono (T := fun k => w.heap.size ≤ k) (fun k h _ => by omega)) (fun _ h _ => h)).below (Nat.le_refl _) (fun k h => h)

set_option maxRecDepth 100000 in
set_option maxHeartbeats 1600000 in
theorem settimeout_fn (w : World) (rv av : Value) (R : List Brn) (A : List Asc) (x : Xid) (n : Int) (hR : Slc brEnc 7 w rv R) (hA : Slc ascEnc 5 w av A) (hLR : R.length ≤ 1000000) (hLA : A.length ≤ 1000000) :
    Calls Try.prog 37 #[.agg #[rv, av], .agg #[.int .u32 x.1, .string x.2.1, .string x.2.2], .int .u32 n] w (TabPost2 w (overB (mayB R A true x) (timeoutD R A x n))) := by
  have hmf : ∀ (fn : Fn) (first cap : Array Value) (w : World), (Instr.makeFunc fn first cap).run Try.prog w = .ok (.func fn first cap) w := fun _ _ _ _ => rfl
  obtain ⟨ra, rc, rfl, hm1⟩ := hR.len
  obtain ⟨aa, ac, rfl, hm2⟩ := hA.len
  obtain ⟨xf, xg, xb⟩ := x
  have hB0 : Below w.heap.size w ((((w.alloc (.cells #[.slice ra R.length rc, .slice aa A.length ac] 25)).alloc (.cells #[.int .u32 xf, .string xg, .string xb] 28)).alloc (.cells #[.int .u32 n] 26)).alloc (.cells #[.slice none 0 0, .slice none 0 0] 25)) := (((((Below.refl _ _).alloc (Nat.le_refl _) _).alloc (by simp) _).alloc (by simp; omega) _).alloc (by simp; omega) _)
  have t0 : Blk ((((w.alloc (.cells #[.slice ra R.length rc, .slice aa A.length ac] 25)).alloc (.cells #[.int .u32 xf, .string xg, .string xb] 28)).alloc (.cells #[.int .u32 n] 26)).alloc (.cells #[.slice none 0 0, .slice none 0 0] 25)) (w.heap.size) [.slice ra R.length rc, .slice aa A.length ac] := ((((Blk.newAt w [.slice ra R.length rc, .slice aa A.length ac] 25 (w.heap.size) (by simp)).alloc (.cells #[.int .u32 xf, .string xg, .string xb] 28)).alloc (.cells #[.int .u32 n] 26)).alloc (.cells #[.slice none 0 0, .slice none 0 0] 25))
  have ct0 := t0.at 0 rfl
  have ct1 := t0.at 1 rfl
  have x0 : Blk ((((w.alloc (.cells #[.slice ra R.length rc, .slice aa A.length ac] 25)).alloc (.cells #[.int .u32 xf, .string xg, .string xb] 28)).alloc (.cells #[.int .u32 n] 26)).alloc (.cells #[.slice none 0 0, .slice none 0 0] 25)) (w.heap.size + 1) [.int .u32 xf, .string xg, .string xb] := (((Blk.newAt (w.alloc (.cells #[.slice ra R.length rc, .slice aa A.length ac] 25)) [.int .u32 xf, .string xg, .string xb] 28 (w.heap.size + 1) (by simp)).alloc (.cells #[.int .u32 n] 26)).alloc (.cells #[.slice none 0 0, .slice none 0 0] 25))
  have cx0 := x0.at 0 rfl
  have cx1 := x0.at 1 rfl
  have cx2 := x0.at 2 rfl
  have y0 : Blk ((((w.alloc (.cells #[.slice ra R.length rc, .slice aa A.length ac] 25)).alloc (.cells #[.int .u32 xf, .string xg, .string xb] 28)).alloc (.cells #[.int .u32 n] 26)).alloc (.cells #[.slice none 0 0, .slice none 0 0] 25)) (w.heap.size + 1 + 1) [.int .u32 n] := ((Blk.newAt ((w.alloc (.cells #[.slice ra R.length rc, .slice aa A.length ac] 25)).alloc (.cells #[.int .u32 xf, .string xg, .string xb] 28)) [.int .u32 n] 26 (w.heap.size + 1 + 1) (by simp)).alloc (.cells #[.slice none 0 0, .slice none 0 0] 25))
  have cy0 := y0.at 0 rfl
  have z0 : Blk ((((w.alloc (.cells #[.slice ra R.length rc, .slice aa A.length ac] 25)).alloc (.cells #[.int .u32 xf, .string xg, .string xb] 28)).alloc (.cells #[.int .u32 n] 26)).alloc (.cells #[.slice none 0 0, .slice none 0 0] 25)) (w.heap.size + 1 + 1 + 1) [.slice none 0 0, .slice none 0 0] := (Blk.newAt (((w.alloc (.cells #[.slice ra R.length rc, .slice aa A.length ac] 25)).alloc (.cells #[.int .u32 xf, .string xg, .string xb] 28)).alloc (.cells #[.int .u32 n] 26)) [.slice none 0 0, .slice none 0 0] 25 (w.heap.size + 1 + 1 + 1) (by simp))
  have cz0 := z0.at 0 rfl
  have cz1 := z0.at 1 rfl
  have hz0 : w.heap.size + 4 ≤ ((((w.alloc (.cells #[.slice ra R.length rc, .slice aa A.length ac] 25)).alloc (.cells #[.int .u32 xf, .string xg, .string xb] 28)).alloc (.cells #[.int .u32 n] 26)).alloc (.cells #[.slice none 0 0, .slice none 0 0] 25)).heap.size := by simp
  have hF : ∀ (args : Array Value) (u : World), (callFunc 91 args).run Try.prog u = .ok (.enter 91 args) u := fun _ _ => by kernel_rfl
  have hon := Lib.hid (on_any ((((w.alloc (.cells #[.slice ra R.length rc, .slice aa A.length ac] 25)).alloc (.cells #[.int .u32 xf, .string xg, .string xb] 28)).alloc (.cells #[.int .u32 n] 26)).alloc (.cells #[.slice none 0 0, .slice none 0 0] 25)) _ _ R A true (xf, xg, xb) 91 #[.pointer (some ⟨w.heap.size + 1, 0, none⟩), .pointer (some ⟨w.heap.size + 1 + 1, 0, none⟩)] (timeoutD R A (xf, xg, xb) n) (hR.pure hB0) (hA.pure hB0) hLR hLA hF (fun hTab hok hXid w1 tb rv1 av1 hB hpre => timeout_do _ w1 tb rv1 av1 R A (w.heap.size + 1) (xf, xg, xb) (x0.below hB (by simp)) (by simp) (w.heap.size + 1 + 1) _ (y0.below hB (by simp)) (by simp) hpre hTab.1.2 hLR hLA))
  clear hF
  generalize hD : overB (mayB R A true (xf, xg, xb)) (timeoutD R A (xf, xg, xb) n) = D at hon ⊢
  clear hD
  go_enter Try.func37, Try.ntmps37
  go_wp2_with (first | (go_at_call 47; (with_reducible refine hon.out.mono ?_); rintro e w1 ⟨rv1, av1, rfl, hR1, hA1, hB1⟩; have z1 := z0.pure hB1; obtain ⟨ga, gc, rfl⟩ := own_len hR1; obtain ⟨ha, hc, rfl⟩ := own_len hA1; have f0 := z1.at 0 rfl; have f1 := z1.at 1 rfl; have f2 := z1.frozen 0; have f3 := z1.frozen 1; have hT1 := hB0.trans (hB1.mono hB0.size); have hAl := (Below.refl w1.heap.size w1).alloc (Nat.le_refl _) (.cells #[.slice ga D.1.length gc, .slice ha D.2.1.length hc] 25); have r2 := z1.pure hAl; have b2 := Blk.new w1 [.slice ga D.1.length gc, .slice ha D.2.1.length hc] 25; have g0 := b2.at 0 rfl; have g1 := b2.at 1 rfl; have g2 := r2.at 0 rfl; have g3 := r2.at 1 rfl; have g4 := r2.frozen 0; have g5 := r2.frozen 1; have hT2 := hT1.trans (hAl.mono hT1.size); have hR2 := hR1.pure hAl; have hA2 := hA1.pure hAl))
  have rr := (r2.set 0 (.slice ga D.1.length gc)).set 1 (.slice ha D.2.1.length hc)
  have k0 := rr.at 0 rfl; have k1 := rr.at 1 rfl
  refine bodyPost_ret (by simp [results, Try.results37, go_sem, k0, k1]; rfl) rfl ?_
  refine ⟨_, _, rfl, ?_, ?_, ?_⟩
  · exact ((hR2.other _ _ (fun k hk e => by have := hR2.ge hk; rw [e] at this; simp at this; omega)).other _ _ (fun k hk e => by have := hR2.ge hk; rw [e] at this; simp at this; omega)).rebase (fun k hk => by have := hR2.ge hk; simp at this; omega)
  · exact ((hA2.other _ _ (fun k hk e => by have := hA2.ge hk; rw [e] at this; simp at this; omega)).other _ _ (fun k hk e => by have := hA2.ge hk; rw [e] at this; simp at this; omega)).rebase (fun k hk => by have := hA2.ge hk; simp at this; omega)
  · exact ((Upd.of_below hT2).trans (((Upd.set (S := fun k => w.heap.size + 3 = k) (p := ⟨w.heap.size + 1 + 1 + 1, 0, none⟩) rfl (.slice ga D.1.length gc)).trans (Upd.set (S := fun k => w.heap.size + 3 = k) (p := ⟨w.heap.size + 1 + 1 + 1, 1, none⟩) rfl (.slice ha D.2.1.length hc)) (fun _ h _ => h)).mono (T := fun k => w.heap.size ≤ k) (fun k h _ => by omega)) (fun _ h _ => h)).below (Nat.le_refl _) (fun k h => h)
end Go.Proofs.Ytcelpincmpjhkaa
