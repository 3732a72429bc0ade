/- Package branch: Start, End, Restore. Conditions: the table reads. Written by gen_brP.py. -/
import Derived.Test.YtcelpincmpjhkaaHJ
import Derived.Test.YtcelpincmpjhkaaBrN
import Derived.Test.YtcelpincmpjhkaaBrS
import Derived.Test.YtcelpincmpjhkaaBrT
namespace Go.Proofs.Ytcelpincmpjhkaa
set_option linter.unusedSimpArgs false
set_option linter.unusedVariables false
open Go.RowKit


theorem mayN_zero {A : List Asc} {s : Int} {x : Xid} (h1 : RowA A) (h2 : s ≠ 0) (h3 : XidOk x) : mayN A s x = 0 := by
  unfold mayN; rw [rowE_yes h1]; simp [h2, h3]
def okS (se : Int) (a b : Bool) : Bool := decide (se ≠ 0) && !(a && b)


set_option maxRecDepth 100000 in
set_option maxHeartbeats 1600000 in
theorem start_ff (w : World) (rv av : Value) (R : List Brn) (A : List Asc) (se : Int) (x : Xid) (hse : (se != 0) = true) (hR : Slc brEnc 7 w rv R) (hA : Slc ascEnc 5 w av A) (hLR : R.length ≤ 1000000) (hLA : A.length ≤ 1000000) :
    Calls Try.prog 13 #[.agg #[rv, av], .int .u64 se, .agg #[.int .u32 x.1, .string x.2.1, .string x.2.2], .bool false, .bool false] w (TabPost w (overB (mayB R A true x) (startD R A se x false false))) := by
  have hmf : ∀ (fn : Fn) (first cap : Array Value) (w : World), (Instr.makeFunc fn first cap).run Try.prog w = .ok (.func fn first cap) w := fun _ _ _ _ => rfl
  obtain ⟨ra, rc, rfl, hm1⟩ := hR.len
  obtain ⟨aa, ac, rfl, hm2⟩ := hA.len
  obtain ⟨xf, xg, xb⟩ := x
  have hB0 : Below w.heap.size w ((((((w.alloc (.cells #[.slice ra R.length rc, .slice aa A.length ac] 25)).alloc (.cells #[.int .u64 se] 29)).alloc (.cells #[.int .u32 xf, .string xg, .string xb] 28)).alloc (.cells #[.bool false] 4)).alloc (.cells #[.bool false] 4)).alloc (.cells #[.slice none 0 0, .slice none 0 0] 25)) := (((((((Below.refl _ _).alloc (Nat.le_refl _) _).alloc (by simp) _).alloc (by simp; omega) _).alloc (by simp; omega) _).alloc (by simp; omega) _).alloc (by simp; omega) _)
  have t0 : Blk ((((((w.alloc (.cells #[.slice ra R.length rc, .slice aa A.length ac] 25)).alloc (.cells #[.int .u64 se] 29)).alloc (.cells #[.int .u32 xf, .string xg, .string xb] 28)).alloc (.cells #[.bool false] 4)).alloc (.cells #[.bool false] 4)).alloc (.cells #[.slice none 0 0, .slice none 0 0] 25)) (w.heap.size) [.slice ra R.length rc, .slice aa A.length ac] := ((((((Blk.newAt w [.slice ra R.length rc, .slice aa A.length ac] 25 (w.heap.size) (by simp)).alloc (.cells #[.int .u64 se] 29)).alloc (.cells #[.int .u32 xf, .string xg, .string xb] 28)).alloc (.cells #[.bool false] 4)).alloc (.cells #[.bool false] 4)).alloc (.cells #[.slice none 0 0, .slice none 0 0] 25))
  have ct0 := t0.at 0 rfl
  have ct1 := t0.at 1 rfl
  have x0 : Blk ((((((w.alloc (.cells #[.slice ra R.length rc, .slice aa A.length ac] 25)).alloc (.cells #[.int .u64 se] 29)).alloc (.cells #[.int .u32 xf, .string xg, .string xb] 28)).alloc (.cells #[.bool false] 4)).alloc (.cells #[.bool false] 4)).alloc (.cells #[.slice none 0 0, .slice none 0 0] 25)) (w.heap.size + 1) [.int .u64 se] := (((((Blk.newAt (w.alloc (.cells #[.slice ra R.length rc, .slice aa A.length ac] 25)) [.int .u64 se] 29 (w.heap.size + 1) (by simp)).alloc (.cells #[.int .u32 xf, .string xg, .string xb] 28)).alloc (.cells #[.bool false] 4)).alloc (.cells #[.bool false] 4)).alloc (.cells #[.slice none 0 0, .slice none 0 0] 25))
  have cx0 := x0.at 0 rfl
  have y0 : Blk ((((((w.alloc (.cells #[.slice ra R.length rc, .slice aa A.length ac] 25)).alloc (.cells #[.int .u64 se] 29)).alloc (.cells #[.int .u32 xf, .string xg, .string xb] 28)).alloc (.cells #[.bool false] 4)).alloc (.cells #[.bool false] 4)).alloc (.cells #[.slice none 0 0, .slice none 0 0] 25)) (w.heap.size + 1 + 1) [.int .u32 xf, .string xg, .string xb] := ((((Blk.newAt ((w.alloc (.cells #[.slice ra R.length rc, .slice aa A.length ac] 25)).alloc (.cells #[.int .u64 se] 29)) [.int .u32 xf, .string xg, .string xb] 28 (w.heap.size + 1 + 1) (by simp)).alloc (.cells #[.bool false] 4)).alloc (.cells #[.bool false] 4)).alloc (.cells #[.slice none 0 0, .slice none 0 0] 25))
  have cy0 := y0.at 0 rfl
  have cy1 := y0.at 1 rfl
  have cy2 := y0.at 2 rfl
  have z0 : Blk ((((((w.alloc (.cells #[.slice ra R.length rc, .slice aa A.length ac] 25)).alloc (.cells #[.int .u64 se] 29)).alloc (.cells #[.int .u32 xf, .string xg, .string xb] 28)).alloc (.cells #[.bool false] 4)).alloc (.cells #[.bool false] 4)).alloc (.cells #[.slice none 0 0, .slice none 0 0] 25)) (w.heap.size + 1 + 1 + 1) [.bool false] := (((Blk.newAt (((w.alloc (.cells #[.slice ra R.length rc, .slice aa A.length ac] 25)).alloc (.cells #[.int .u64 se] 29)).alloc (.cells #[.int .u32 xf, .string xg, .string xb] 28)) [.bool false] 4 (w.heap.size + 1 + 1 + 1) (by simp)).alloc (.cells #[.bool false] 4)).alloc (.cells #[.slice none 0 0, .slice none 0 0] 25))
  have cz0 := z0.at 0 rfl
  have u0 : Blk ((((((w.alloc (.cells #[.slice ra R.length rc, .slice aa A.length ac] 25)).alloc (.cells #[.int .u64 se] 29)).alloc (.cells #[.int .u32 xf, .string xg, .string xb] 28)).alloc (.cells #[.bool false] 4)).alloc (.cells #[.bool false] 4)).alloc (.cells #[.slice none 0 0, .slice none 0 0] 25)) (w.heap.size + 1 + 1 + 1 + 1) [.bool false] := ((Blk.newAt ((((w.alloc (.cells #[.slice ra R.length rc, .slice aa A.length ac] 25)).alloc (.cells #[.int .u64 se] 29)).alloc (.cells #[.int .u32 xf, .string xg, .string xb] 28)).alloc (.cells #[.bool false] 4)) [.bool false] 4 (w.heap.size + 1 + 1 + 1 + 1) (by simp)).alloc (.cells #[.slice none 0 0, .slice none 0 0] 25))
  have cu0 := u0.at 0 rfl
  have v0 : Blk ((((((w.alloc (.cells #[.slice ra R.length rc, .slice aa A.length ac] 25)).alloc (.cells #[.int .u64 se] 29)).alloc (.cells #[.int .u32 xf, .string xg, .string xb] 28)).alloc (.cells #[.bool false] 4)).alloc (.cells #[.bool false] 4)).alloc (.cells #[.slice none 0 0, .slice none 0 0] 25)) (w.heap.size + 1 + 1 + 1 + 1 + 1) [.slice none 0 0, .slice none 0 0] := (Blk.newAt (((((w.alloc (.cells #[.slice ra R.length rc, .slice aa A.length ac] 25)).alloc (.cells #[.int .u64 se] 29)).alloc (.cells #[.int .u32 xf, .string xg, .string xb] 28)).alloc (.cells #[.bool false] 4)).alloc (.cells #[.bool false] 4)) [.slice none 0 0, .slice none 0 0] 25 (w.heap.size + 1 + 1 + 1 + 1 + 1) (by simp))
  have cv0 := v0.at 0 rfl
  have cv1 := v0.at 1 rfl
  have hz0 : w.heap.size + 6 ≤ ((((((w.alloc (.cells #[.slice ra R.length rc, .slice aa A.length ac] 25)).alloc (.cells #[.int .u64 se] 29)).alloc (.cells #[.int .u32 xf, .string xg, .string xb] 28)).alloc (.cells #[.bool false] 4)).alloc (.cells #[.bool false] 4)).alloc (.cells #[.slice none 0 0, .slice none 0 0] 25)).heap.size := by simp
  have hF : ∀ (args : Array Value) (u : World), (callFunc 48 args).run Try.prog u = .ok (.enter 48 args) u := fun _ _ => by kernel_rfl
  have hon := Lib.hid (on_any ((((((w.alloc (.cells #[.slice ra R.length rc, .slice aa A.length ac] 25)).alloc (.cells #[.int .u64 se] 29)).alloc (.cells #[.int .u32 xf, .string xg, .string xb] 28)).alloc (.cells #[.bool false] 4)).alloc (.cells #[.bool false] 4)).alloc (.cells #[.slice none 0 0, .slice none 0 0] 25)) _ _ R A true (xf, xg, xb) 48 #[.pointer (some ⟨w.heap.size + 1, 0, none⟩), .pointer (some ⟨w.heap.size + 1 + 1 + 1, 0, none⟩), .pointer (some ⟨w.heap.size + 1 + 1 + 1 + 1, 0, none⟩), .pointer (some ⟨w.heap.size + 1 + 1, 0, none⟩)] (startD R A se (xf, xg, xb) false false) (hR.pure hB0) (hA.pure hB0) hLR hLA hF (fun hTab hok hXid w1 tb rv1 av1 hB hpre => start_do _ w1 tb rv1 av1 R A (w.heap.size + 1) (w.heap.size + 1 + 1 + 1) (w.heap.size + 1 + 1 + 1 + 1) (w.heap.size + 1 + 1) se _ _ (xf, xg, xb) (x0.below hB (by simp)) (z0.below hB (by simp)) (u0.below hB (by simp)) (y0.below hB (by simp)) (by simp) (by simp) (by simp) (by simp) hpre hTab.1.2 hLR hLA))
  clear hF
  generalize hD : overB (mayB R A true (xf, xg, xb)) (startD R A se (xf, xg, xb) false false) = D at hon ⊢
  clear hD
  go_enter Try.func13, Try.ntmps13
  go_wp2_with (first | (go_at_call 47; (with_reducible refine hon.out.mono ?_); rintro e w1 ⟨rv1, av1, rfl, hR1, hA1, hB1⟩; have v1 := v0.pure hB1; obtain ⟨ga, gc, rfl⟩ := own_len hR1; obtain ⟨ha, hc, rfl⟩ := own_len hA1; have f0 := v1.at 0 rfl; have f1 := v1.at 1 rfl; have f2 := v1.frozen 0; have f3 := v1.frozen 1; have hT1 := hB0.trans (hB1.mono hB0.size)))
  have rr := (v1.set 0 (.slice ga D.1.length gc)).set 1 (.slice ha D.2.1.length hc)
  have k0 := rr.at 0 rfl; have k1 := rr.at 1 rfl
  refine bodyPost_ret (by simp [results, Try.results13, go_sem, k0, k1]; rfl) rfl ?_
  refine ⟨_, _, rfl, ?_, ?_, ?_⟩
  · exact ((hR1.other _ _ (fun k hk e => by have := hR1.ge hk; rw [e] at this; simp at this; omega)).other _ _ (fun k hk e => by have := hR1.ge hk; rw [e] at this; simp at this; omega)).rebase (fun k hk => by have := hR1.ge hk; simp at this; omega)
  · exact ((hA1.other _ _ (fun k hk e => by have := hA1.ge hk; rw [e] at this; simp at this; omega)).other _ _ (fun k hk e => by have := hA1.ge hk; rw [e] at this; simp at this; omega)).rebase (fun k hk => by have := hA1.ge hk; simp at this; omega)
  · exact ((Upd.of_below hT1).trans (((Upd.set (S := fun k => w.heap.size + 5 = k) (p := ⟨w.heap.size + 1 + 1 + 1 + 1 + 1, 0, none⟩) rfl (.slice ga D.1.length gc)).trans (Upd.set (S := fun k => w.heap.size + 5 = k) (p := ⟨w.heap.size + 1 + 1 + 1 + 1 + 1, 1, none⟩) rfl (.slice ha D.2.1.length hc)) (fun _ h _ => h)).mono (T := fun k => w.heap.size ≤ k) (fun k h _ => by omega)) (fun _ h _ => h)).below (Nat.le_refl _) (fun k h => h)

set_option maxRecDepth 100000 in
set_option maxHeartbeats 1600000 in
theorem start_ft (w : World) (rv av : Value) (R : List Brn) (A : List Asc) (se : Int) (x : Xid) (hse : (se != 0) = true) (hR : Slc brEnc 7 w rv R) (hA : Slc ascEnc 5 w av A) (hLR : R.length ≤ 1000000) (hLA : A.length ≤ 1000000) :
    Calls Try.prog 13 #[.agg #[rv, av], .int .u64 se, .agg #[.int .u32 x.1, .string x.2.1, .string x.2.2], .bool false, .bool true] w (TabPost w (overB (mayB R A true x) (startD R A se x false true))) := by
  have hmf : ∀ (fn : Fn) (first cap : Array Value) (w : World), (Instr.makeFunc fn first cap).run Try.prog w = .ok (.func fn first cap) w := fun _ _ _ _ => rfl
  obtain ⟨ra, rc, rfl, hm1⟩ := hR.len
  obtain ⟨aa, ac, rfl, hm2⟩ := hA.len
  obtain ⟨xf, xg, xb⟩ := x
  have hB0 : Below w.heap.size w ((((((w.alloc (.cells #[.slice ra R.length rc, .slice aa A.length ac] 25)).alloc (.cells #[.int .u64 se] 29)).alloc (.cells #[.int .u32 xf, .string xg, .string xb] 28)).alloc (.cells #[.bool false] 4)).alloc (.cells #[.bool true] 4)).alloc (.cells #[.slice none 0 0, .slice none 0 0] 25)) := (((((((Below.refl _ _).alloc (Nat.le_refl _) _).alloc (by simp) _).alloc (by simp; omega) _).alloc (by simp; omega) _).alloc (by simp; omega) _).alloc (by simp; omega) _)
  have t0 : Blk ((((((w.alloc (.cells #[.slice ra R.length rc, .slice aa A.length ac] 25)).alloc (.cells #[.int .u64 se] 29)).alloc (.cells #[.int .u32 xf, .string xg, .string xb] 28)).alloc (.cells #[.bool false] 4)).alloc (.cells #[.bool true] 4)).alloc (.cells #[.slice none 0 0, .slice none 0 0] 25)) (w.heap.size) [.slice ra R.length rc, .slice aa A.length ac] := ((((((Blk.newAt w [.slice ra R.length rc, .slice aa A.length ac] 25 (w.heap.size) (by simp)).alloc (.cells #[.int .u64 se] 29)).alloc (.cells #[.int .u32 xf, .string xg, .string xb] 28)).alloc (.cells #[.bool false] 4)).alloc (.cells #[.bool true] 4)).alloc (.cells #[.slice none 0 0, .slice none 0 0] 25))
  have ct0 := t0.at 0 rfl
  have ct1 := t0.at 1 rfl
  have x0 : Blk ((((((w.alloc (.cells #[.slice ra R.length rc, .slice aa A.length ac] 25)).alloc (.cells #[.int .u64 se] 29)).alloc (.cells #[.int .u32 xf, .string xg, .string xb] 28)).alloc (.cells #[.bool false] 4)).alloc (.cells #[.bool true] 4)).alloc (.cells #[.slice none 0 0, .slice none 0 0] 25)) (w.heap.size + 1) [.int .u64 se] := (((((Blk.newAt (w.alloc (.cells #[.slice ra R.length rc, .slice aa A.length ac] 25)) [.int .u64 se] 29 (w.heap.size + 1) (by simp)).alloc (.cells #[.int .u32 xf, .string xg, .string xb] 28)).alloc (.cells #[.bool false] 4)).alloc (.cells #[.bool true] 4)).alloc (.cells #[.slice none 0 0, .slice none 0 0] 25))
  have cx0 := x0.at 0 rfl
  have y0 : Blk ((((((w.alloc (.cells #[.slice ra R.length rc, .slice aa A.length ac] 25)).alloc (.cells #[.int .u64 se] 29)).alloc (.cells #[.int .u32 xf, .string xg, .string xb] 28)).alloc (.cells #[.bool false] 4)).alloc (.cells #[.bool true] 4)).alloc (.cells #[.slice none 0 0, .slice none 0 0] 25)) (w.heap.size + 1 + 1) [.int .u32 xf, .string xg, .string xb] := ((((Blk.newAt ((w.alloc (.cells #[.slice ra R.length rc, .slice aa A.length ac] 25)).alloc (.cells #[.int .u64 se] 29)) [.int .u32 xf, .string xg, .string xb] 28 (w.heap.size + 1 + 1) (by simp)).alloc (.cells #[.bool false] 4)).alloc (.cells #[.bool true] 4)).alloc (.cells #[.slice none 0 0, .slice none 0 0] 25))
  have cy0 := y0.at 0 rfl
  have cy1 := y0.at 1 rfl
  have cy2 := y0.at 2 rfl
  have z0 : Blk ((((((w.alloc (.cells #[.slice ra R.length rc, .slice aa A.length ac] 25)).alloc (.cells #[.int .u64 se] 29)).alloc (.cells #[.int .u32 xf, .string xg, .string xb] 28)).alloc (.cells #[.bool false] 4)).alloc (.cells #[.bool true] 4)).alloc (.cells #[.slice none 0 0, .slice none 0 0] 25)) (w.heap.size + 1 + 1 + 1) [.bool false] := (((Blk.newAt (((w.alloc (.cells #[.slice ra R.length rc, .slice aa A.length ac] 25)).alloc (.cells #[.int .u64 se] 29)).alloc (.cells #[.int .u32 xf, .string xg, .string xb] 28)) [.bool false] 4 (w.heap.size + 1 + 1 + 1) (by simp)).alloc (.cells #[.bool true] 4)).alloc (.cells #[.slice none 0 0, .slice none 0 0] 25))
  have cz0 := z0.at 0 rfl
  have u0 : Blk ((((((w.alloc (.cells #[.slice ra R.length rc, .slice aa A.length ac] 25)).alloc (.cells #[.int .u64 se] 29)).alloc (.cells #[.int .u32 xf, .string xg, .string xb] 28)).alloc (.cells #[.bool false] 4)).alloc (.cells #[.bool true] 4)).alloc (.cells #[.slice none 0 0, .slice none 0 0] 25)) (w.heap.size + 1 + 1 + 1 + 1) [.bool true] := ((Blk.newAt ((((w.alloc (.cells #[.slice ra R.length rc, .slice aa A.length ac] 25)).alloc (.cells #[.int .u64 se] 29)).alloc (.cells #[.int .u32 xf, .string xg, .string xb] 28)).alloc (.cells #[.bool false] 4)) [.bool true] 4 (w.heap.size + 1 + 1 + 1 + 1) (by simp)).alloc (.cells #[.slice none 0 0, .slice none 0 0] 25))
  have cu0 := u0.at 0 rfl
  have v0 : Blk ((((((w.alloc (.cells #[.slice ra R.length rc, .slice aa A.length ac] 25)).alloc (.cells #[.int .u64 se] 29)).alloc (.cells #[.int .u32 xf, .string xg, .string xb] 28)).alloc (.cells #[.bool false] 4)).alloc (.cells #[.bool true] 4)).alloc (.cells #[.slice none 0 0, .slice none 0 0] 25)) (w.heap.size + 1 + 1 + 1 + 1 + 1) [.slice none 0 0, .slice none 0 0] := (Blk.newAt (((((w.alloc (.cells #[.slice ra R.length rc, .slice aa A.length ac] 25)).alloc (.cells #[.int .u64 se] 29)).alloc (.cells #[.int .u32 xf, .string xg, .string xb] 28)).alloc (.cells #[.bool false] 4)).alloc (.cells #[.bool true] 4)) [.slice none 0 0, .slice none 0 0] 25 (w.heap.size + 1 + 1 + 1 + 1 + 1) (by simp))
  have cv0 := v0.at 0 rfl
  have cv1 := v0.at 1 rfl
  have hz0 : w.heap.size + 6 ≤ ((((((w.alloc (.cells #[.slice ra R.length rc, .slice aa A.length ac] 25)).alloc (.cells #[.int .u64 se] 29)).alloc (.cells #[.int .u32 xf, .string xg, .string xb] 28)).alloc (.cells #[.bool false] 4)).alloc (.cells #[.bool true] 4)).alloc (.cells #[.slice none 0 0, .slice none 0 0] 25)).heap.size := by simp
  have hF : ∀ (args : Array Value) (u : World), (callFunc 48 args).run Try.prog u = .ok (.enter 48 args) u := fun _ _ => by kernel_rfl
  have hon := Lib.hid (on_any ((((((w.alloc (.cells #[.slice ra R.length rc, .slice aa A.length ac] 25)).alloc (.cells #[.int .u64 se] 29)).alloc (.cells #[.int .u32 xf, .string xg, .string xb] 28)).alloc (.cells #[.bool false] 4)).alloc (.cells #[.bool true] 4)).alloc (.cells #[.slice none 0 0, .slice none 0 0] 25)) _ _ R A true (xf, xg, xb) 48 #[.pointer (some ⟨w.heap.size + 1, 0, none⟩), .pointer (some ⟨w.heap.size + 1 + 1 + 1, 0, none⟩), .pointer (some ⟨w.heap.size + 1 + 1 + 1 + 1, 0, none⟩), .pointer (some ⟨w.heap.size + 1 + 1, 0, none⟩)] (startD R A se (xf, xg, xb) false true) (hR.pure hB0) (hA.pure hB0) hLR hLA hF (fun hTab hok hXid w1 tb rv1 av1 hB hpre => start_do _ w1 tb rv1 av1 R A (w.heap.size + 1) (w.heap.size + 1 + 1 + 1) (w.heap.size + 1 + 1 + 1 + 1) (w.heap.size + 1 + 1) se _ _ (xf, xg, xb) (x0.below hB (by simp)) (z0.below hB (by simp)) (u0.below hB (by simp)) (y0.below hB (by simp)) (by simp) (by simp) (by simp) (by simp) hpre hTab.1.2 hLR hLA))
  clear hF
  generalize hD : overB (mayB R A true (xf, xg, xb)) (startD R A se (xf, xg, xb) false true) = D at hon ⊢
  clear hD
  go_enter Try.func13, Try.ntmps13
  go_wp2_with (first | (go_at_call 47; (with_reducible refine hon.out.mono ?_); rintro e w1 ⟨rv1, av1, rfl, hR1, hA1, hB1⟩; have v1 := v0.pure hB1; obtain ⟨ga, gc, rfl⟩ := own_len hR1; obtain ⟨ha, hc, rfl⟩ := own_len hA1; have f0 := v1.at 0 rfl; have f1 := v1.at 1 rfl; have f2 := v1.frozen 0; have f3 := v1.frozen 1; have hT1 := hB0.trans (hB1.mono hB0.size)))
  have rr := (v1.set 0 (.slice ga D.1.length gc)).set 1 (.slice ha D.2.1.length hc)
  have k0 := rr.at 0 rfl; have k1 := rr.at 1 rfl
  refine bodyPost_ret (by simp [results, Try.results13, go_sem, k0, k1]; rfl) rfl ?_
  refine ⟨_, _, rfl, ?_, ?_, ?_⟩
  · exact ((hR1.other _ _ (fun k hk e => by have := hR1.ge hk; rw [e] at this; simp at this; omega)).other _ _ (fun k hk e => by have := hR1.ge hk; rw [e] at this; simp at this; omega)).rebase (fun k hk => by have := hR1.ge hk; simp at this; omega)
  · exact ((hA1.other _ _ (fun k hk e => by have := hA1.ge hk; rw [e] at this; simp at this; omega)).other _ _ (fun k hk e => by have := hA1.ge hk; rw [e] at this; simp at this; omega)).rebase (fun k hk => by have := hA1.ge hk; simp at this; omega)
  · exact ((Upd.of_below hT1).trans (((Upd.set (S := fun k => w.heap.size + 5 = k) (p := ⟨w.heap.size + 1 + 1 + 1 + 1 + 1, 0, none⟩) rfl (.slice ga D.1.length gc)).trans (Upd.set (S := fun k => w.heap.size + 5 = k) (p := ⟨w.heap.size + 1 + 1 + 1 + 1 + 1, 1, none⟩) rfl (.slice ha D.2.1.length hc)) (fun _ h _ => h)).mono (T := fun k => w.heap.size ≤ k) (fun k h _ => by omega)) (fun _ h _ => h)).below (Nat.le_refl _) (fun k h => h)

set_option maxRecDepth 100000 in
set_option maxHeartbeats 1600000 in
theorem start_tf (w : World) (rv av : Value) (R : List Brn) (A : List Asc) (se : Int) (x : Xid) (hse : (se != 0) = true) (hR : Slc brEnc 7 w rv R) (hA : Slc ascEnc 5 w av A) (hLR : R.length ≤ 1000000) (hLA : A.length ≤ 1000000) :
    Calls Try.prog 13 #[.agg #[rv, av], .int .u64 se, .agg #[.int .u32 x.1, .string x.2.1, .string x.2.2], .bool true, .bool false] w (TabPost w (overB (mayB R A true x) (startD R A se x true false))) := by
  have hmf : ∀ (fn : Fn) (first cap : Array Value) (w : World), (Instr.makeFunc fn first cap).run Try.prog w = .ok (.func fn first cap) w := fun _ _ _ _ => rfl
  obtain ⟨ra, rc, rfl, hm1⟩ := hR.len
  obtain ⟨aa, ac, rfl, hm2⟩ := hA.len
  obtain ⟨xf, xg, xb⟩ := x
  have hB0 : Below w.heap.size w ((((((w.alloc (.cells #[.slice ra R.length rc, .slice aa A.length ac] 25)).alloc (.cells #[.int .u64 se] 29)).alloc (.cells #[.int .u32 xf, .string xg, .string xb] 28)).alloc (.cells #[.bool true] 4)).alloc (.cells #[.bool false] 4)).alloc (.cells #[.slice none 0 0, .slice none 0 0] 25)) := (((((((Below.refl _ _).alloc (Nat.le_refl _) _).alloc (by simp) _).alloc (by simp; omega) _).alloc (by simp; omega) _).alloc (by simp; omega) _).alloc (by simp; omega) _)
  have t0 : Blk ((((((w.alloc (.cells #[.slice ra R.length rc, .slice aa A.length ac] 25)).alloc (.cells #[.int .u64 se] 29)).alloc (.cells #[.int .u32 xf, .string xg, .string xb] 28)).alloc (.cells #[.bool true] 4)).alloc (.cells #[.bool false] 4)).alloc (.cells #[.slice none 0 0, .slice none 0 0] 25)) (w.heap.size) [.slice ra R.length rc, .slice aa A.length ac] := ((((((Blk.newAt w [.slice ra R.length rc, .slice aa A.length ac] 25 (w.heap.size) (by simp)).alloc (.cells #[.int .u64 se] 29)).alloc (.cells #[.int .u32 xf, .string xg, .string xb] 28)).alloc (.cells #[.bool true] 4)).alloc (.cells #[.bool false] 4)).alloc (.cells #[.slice none 0 0, .slice none 0 0] 25))
  have ct0 := t0.at 0 rfl
  have ct1 := t0.at 1 rfl
  have x0 : Blk ((((((w.alloc (.cells #[.slice ra R.length rc, .slice aa A.length ac] 25)).alloc (.cells #[.int .u64 se] 29)).alloc (.cells #[.int .u32 xf, .string xg, .string xb] 28)).alloc (.cells #[.bool true] 4)).alloc (.cells #[.bool false] 4)).alloc (.cells #[.slice none 0 0, .slice none 0 0] 25)) (w.heap.size + 1) [.int .u64 se] := (((((Blk.newAt (w.alloc (.cells #[.slice ra R.length rc, .slice aa A.length ac] 25)) [.int .u64 se] 29 (w.heap.size + 1) (by simp)).alloc (.cells #[.int .u32 xf, .string xg, .string xb] 28)).alloc (.cells #[.bool true] 4)).alloc (.cells #[.bool false] 4)).alloc (.cells #[.slice none 0 0, .slice none 0 0] 25))
  have cx0 := x0.at 0 rfl
  have y0 : Blk ((((((w.alloc (.cells #[.slice ra R.length rc, .slice aa A.length ac] 25)).alloc (.cells #[.int .u64 se] 29)).alloc (.cells #[.int .u32 xf, .string xg, .string xb] 28)).alloc (.cells #[.bool true] 4)).alloc (.cells #[.bool false] 4)).alloc (.cells #[.slice none 0 0, .slice none 0 0] 25)) (w.heap.size + 1 + 1) [.int .u32 xf, .string xg, .string xb] := ((((Blk.newAt ((w.alloc (.cells #[.slice ra R.length rc, .slice aa A.length ac] 25)).alloc (.cells #[.int .u64 se] 29)) [.int .u32 xf, .string xg, .string xb] 28 (w.heap.size + 1 + 1) (by simp)).alloc (.cells #[.bool true] 4)).alloc (.cells #[.bool false] 4)).alloc (.cells #[.slice none 0 0, .slice none 0 0] 25))
  have cy0 := y0.at 0 rfl
  have cy1 := y0.at 1 rfl
  have cy2 := y0.at 2 rfl
  have z0 : Blk ((((((w.alloc (.cells #[.slice ra R.length rc, .slice aa A.length ac] 25)).alloc (.cells #[.int .u64 se] 29)).alloc (.cells #[.int .u32 xf, .string xg, .string xb] 28)).alloc (.cells #[.bool true] 4)).alloc (.cells #[.bool false] 4)).alloc (.cells #[.slice none 0 0, .slice none 0 0] 25)) (w.heap.size + 1 + 1 + 1) [.bool true] := (((Blk.newAt (((w.alloc (.cells #[.slice ra R.length rc, .slice aa A.length ac] 25)).alloc (.cells #[.int .u64 se] 29)).alloc (.cells #[.int .u32 xf, .string xg, .string xb] 28)) [.bool true] 4 (w.heap.size + 1 + 1 + 1) (by simp)).alloc (.cells #[.bool false] 4)).alloc (.cells #[.slice none 0 0, .slice none 0 0] 25))
  have cz0 := z0.at 0 rfl
  have u0 : Blk ((((((w.alloc (.cells #[.slice ra R.length rc, .slice aa A.length ac] 25)).alloc (.cells #[.int .u64 se] 29)).alloc (.cells #[.int .u32 xf, .string xg, .string xb] 28)).alloc (.cells #[.bool true] 4)).alloc (.cells #[.bool false] 4)).alloc (.cells #[.slice none 0 0, .slice none 0 0] 25)) (w.heap.size + 1 + 1 + 1 + 1) [.bool false] := ((Blk.newAt ((((w.alloc (.cells #[.slice ra R.length rc, .slice aa A.length ac] 25)).alloc (.cells #[.int .u64 se] 29)).alloc (.cells #[.int .u32 xf, .string xg, .string xb] 28)).alloc (.cells #[.bool true] 4)) [.bool false] 4 (w.heap.size + 1 + 1 + 1 + 1) (by simp)).alloc (.cells #[.slice none 0 0, .slice none 0 0] 25))
  have cu0 := u0.at 0 rfl
  have v0 : Blk ((((((w.alloc (.cells #[.slice ra R.length rc, .slice aa A.length ac] 25)).alloc (.cells #[.int .u64 se] 29)).alloc (.cells #[.int .u32 xf, .string xg, .string xb] 28)).alloc (.cells #[.bool true] 4)).alloc (.cells #[.bool false] 4)).alloc (.cells #[.slice none 0 0, .slice none 0 0] 25)) (w.heap.size + 1 + 1 + 1 + 1 + 1) [.slice none 0 0, .slice none 0 0] := (Blk.newAt (((((w.alloc (.cells #[.slice ra R.length rc, .slice aa A.length ac] 25)).alloc (.cells #[.int .u64 se] 29)).alloc (.cells #[.int .u32 xf, .string xg, .string xb] 28)).alloc (.cells #[.bool true] 4)).alloc (.cells #[.bool false] 4)) [.slice none 0 0, .slice none 0 0] 25 (w.heap.size + 1 + 1 + 1 + 1 + 1) (by simp))
  have cv0 := v0.at 0 rfl
  have cv1 := v0.at 1 rfl
  have hz0 : w.heap.size + 6 ≤ ((((((w.alloc (.cells #[.slice ra R.length rc, .slice aa A.length ac] 25)).alloc (.cells #[.int .u64 se] 29)).alloc (.cells #[.int .u32 xf, .string xg, .string xb] 28)).alloc (.cells #[.bool true] 4)).alloc (.cells #[.bool false] 4)).alloc (.cells #[.slice none 0 0, .slice none 0 0] 25)).heap.size := by simp
  have hF : ∀ (args : Array Value) (u : World), (callFunc 48 args).run Try.prog u = .ok (.enter 48 args) u := fun _ _ => by kernel_rfl
  have hon := Lib.hid (on_any ((((((w.alloc (.cells #[.slice ra R.length rc, .slice aa A.length ac] 25)).alloc (.cells #[.int .u64 se] 29)).alloc (.cells #[.int .u32 xf, .string xg, .string xb] 28)).alloc (.cells #[.bool true] 4)).alloc (.cells #[.bool false] 4)).alloc (.cells #[.slice none 0 0, .slice none 0 0] 25)) _ _ R A true (xf, xg, xb) 48 #[.pointer (some ⟨w.heap.size + 1, 0, none⟩), .pointer (some ⟨w.heap.size + 1 + 1 + 1, 0, none⟩), .pointer (some ⟨w.heap.size + 1 + 1 + 1 + 1, 0, none⟩), .pointer (some ⟨w.heap.size + 1 + 1, 0, none⟩)] (startD R A se (xf, xg, xb) true false) (hR.pure hB0) (hA.pure hB0) hLR hLA hF (fun hTab hok hXid w1 tb rv1 av1 hB hpre => start_do _ w1 tb rv1 av1 R A (w.heap.size + 1) (w.heap.size + 1 + 1 + 1) (w.heap.size + 1 + 1 + 1 + 1) (w.heap.size + 1 + 1) se _ _ (xf, xg, xb) (x0.below hB (by simp)) (z0.below hB (by simp)) (u0.below hB (by simp)) (y0.below hB (by simp)) (by simp) (by simp) (by simp) (by simp) hpre hTab.1.2 hLR hLA))
  clear hF
  generalize hD : overB (mayB R A true (xf, xg, xb)) (startD R A se (xf, xg, xb) true false) = D at hon ⊢
  clear hD
  go_enter Try.func13, Try.ntmps13
  go_wp2_with (first | (go_at_call 47; (with_reducible refine hon.out.mono ?_); rintro e w1 ⟨rv1, av1, rfl, hR1, hA1, hB1⟩; have v1 := v0.pure hB1; obtain ⟨ga, gc, rfl⟩ := own_len hR1; obtain ⟨ha, hc, rfl⟩ := own_len hA1; have f0 := v1.at 0 rfl; have f1 := v1.at 1 rfl; have f2 := v1.frozen 0; have f3 := v1.frozen 1; have hT1 := hB0.trans (hB1.mono hB0.size)))
  have rr := (v1.set 0 (.slice ga D.1.length gc)).set 1 (.slice ha D.2.1.length hc)
  have k0 := rr.at 0 rfl; have k1 := rr.at 1 rfl
  refine bodyPost_ret (by simp [results, Try.results13, go_sem, k0, k1]; rfl) rfl ?_
  refine ⟨_, _, rfl, ?_, ?_, ?_⟩
  · exact ((hR1.other _ _ (fun k hk e => by have := hR1.ge hk; rw [e] at this; simp at this; omega)).other _ _ (fun k hk e => by have := hR1.ge hk; rw [e] at this; simp at this; omega)).rebase (fun k hk => by have := hR1.ge hk; simp at this; omega)
  · exact ((hA1.other _ _ (fun k hk e => by have := hA1.ge hk; rw [e] at this; simp at this; omega)).other _ _ (fun k hk e => by have := hA1.ge hk; rw [e] at this; simp at this; omega)).rebase (fun k hk => by have := hA1.ge hk; simp at this; omega)
  · exact ((Upd.of_below hT1).trans (((Upd.set (S := fun k => w.heap.size + 5 = k) (p := ⟨w.heap.size + 1 + 1 + 1 + 1 + 1, 0, none⟩) rfl (.slice ga D.1.length gc)).trans (Upd.set (S := fun k => w.heap.size + 5 = k) (p := ⟨w.heap.size + 1 + 1 + 1 + 1 + 1, 1, none⟩) rfl (.slice ha D.2.1.length hc)) (fun _ h _ => h)).mono (T := fun k => w.heap.size ≤ k) (fun k h _ => by omega)) (fun _ h _ => h)).below (Nat.le_refl _) (fun k h => h)

set_option maxRecDepth 100000 in
set_option maxHeartbeats 1600000 in
theorem start_tt (w : World) (rv av : Value) (R : List Brn) (A : List Asc) (se : Int) (x : Xid) (hse : (se != 0) = true) (hR : Slc brEnc 7 w rv R) (hA : Slc ascEnc 5 w av A) (hLR : R.length ≤ 1000000) (hLA : A.length ≤ 1000000) :
    Calls Try.prog 13 #[.agg #[rv, av], .int .u64 se, .agg #[.int .u32 x.1, .string x.2.1, .string x.2.2], .bool true, .bool true] w (TabPost w (overB (mayB R A false x) (startD R A se x true true))) := by
  have hmf : ∀ (fn : Fn) (first cap : Array Value) (w : World), (Instr.makeFunc fn first cap).run Try.prog w = .ok (.func fn first cap) w := fun _ _ _ _ => rfl
  obtain ⟨ra, rc, rfl, hm1⟩ := hR.len
  obtain ⟨aa, ac, rfl, hm2⟩ := hA.len
  obtain ⟨xf, xg, xb⟩ := x
  have hB0 : Below w.heap.size w ((((((w.alloc (.cells #[.slice ra R.length rc, .slice aa A.length ac] 25)).alloc (.cells #[.int .u64 se] 29)).alloc (.cells #[.int .u32 xf, .string xg, .string xb] 28)).alloc (.cells #[.bool true] 4)).alloc (.cells #[.bool true] 4)).alloc (.cells #[.slice none 0 0, .slice none 0 0] 25)) := (((((((Below.refl _ _).alloc (Nat.le_refl _) _).alloc (by simp) _).alloc (by simp; omega) _).alloc (by simp; omega) _).alloc (by simp; omega) _).alloc (by simp; omega) _)
  have t0 : Blk ((((((w.alloc (.cells #[.slice ra R.length rc, .slice aa A.length ac] 25)).alloc (.cells #[.int .u64 se] 29)).alloc (.cells #[.int .u32 xf, .string xg, .string xb] 28)).alloc (.cells #[.bool true] 4)).alloc (.cells #[.bool true] 4)).alloc (.cells #[.slice none 0 0, .slice none 0 0] 25)) (w.heap.size) [.slice ra R.length rc, .slice aa A.length ac] := ((((((Blk.newAt w [.slice ra R.length rc, .slice aa A.length ac] 25 (w.heap.size) (by simp)).alloc (.cells #[.int .u64 se] 29)).alloc (.cells #[.int .u32 xf, .string xg, .string xb] 28)).alloc (.cells #[.bool true] 4)).alloc (.cells #[.bool true] 4)).alloc (.cells #[.slice none 0 0, .slice none 0 0] 25))
  have ct0 := t0.at 0 rfl
  have ct1 := t0.at 1 rfl
  have x0 : Blk ((((((w.alloc (.cells #[.slice ra R.length rc, .slice aa A.length ac] 25)).alloc (.cells #[.int .u64 se] 29)).alloc (.cells #[.int .u32 xf, .string xg, .string xb] 28)).alloc (.cells #[.bool true] 4)).alloc (.cells #[.bool true] 4)).alloc (.cells #[.slice none 0 0, .slice none 0 0] 25)) (w.heap.size + 1) [.int .u64 se] := (((((Blk.newAt (w.alloc (.cells #[.slice ra R.length rc, .slice aa A.length ac] 25)) [.int .u64 se] 29 (w.heap.size + 1) (by simp)).alloc (.cells #[.int .u32 xf, .string xg, .string xb] 28)).alloc (.cells #[.bool true] 4)).alloc (.cells #[.bool true] 4)).alloc (.cells #[.slice none 0 0, .slice none 0 0] 25))
  have cx0 := x0.at 0 rfl
  have y0 : Blk ((((((w.alloc (.cells #[.slice ra R.length rc, .slice aa A.length ac] 25)).alloc (.cells #[.int .u64 se] 29)).alloc (.cells #[.int .u32 xf, .string xg, .string xb] 28)).alloc (.cells #[.bool true] 4)).alloc (.cells #[.bool true] 4)).alloc (.cells #[.slice none 0 0, .slice none 0 0] 25)) (w.heap.size + 1 + 1) [.int .u32 xf, .string xg, .string xb] := ((((Blk.newAt ((w.alloc (.cells #[.slice ra R.length rc, .slice aa A.length ac] 25)).alloc (.cells #[.int .u64 se] 29)) [.int .u32 xf, .string xg, .string xb] 28 (w.heap.size + 1 + 1) (by simp)).alloc (.cells #[.bool true] 4)).alloc (.cells #[.bool true] 4)).alloc (.cells #[.slice none 0 0, .slice none 0 0] 25))
  have cy0 := y0.at 0 rfl
  have cy1 := y0.at 1 rfl
  have cy2 := y0.at 2 rfl
  have z0 : Blk ((((((w.alloc (.cells #[.slice ra R.length rc, .slice aa A.length ac] 25)).alloc (.cells #[.int .u64 se] 29)).alloc (.cells #[.int .u32 xf, .string xg, .string xb] 28)).alloc (.cells #[.bool true] 4)).alloc (.cells #[.bool true] 4)).alloc (.cells #[.slice none 0 0, .slice none 0 0] 25)) (w.heap.size + 1 + 1 + 1) [.bool true] := (((Blk.newAt (((w.alloc (.cells #[.slice ra R.length rc, .slice aa A.length ac] 25)).alloc (.cells #[.int .u64 se] 29)).alloc (.cells #[.int .u32 xf, .string xg, .string xb] 28)) [.bool true] 4 (w.heap.size + 1 + 1 + 1) (by simp)).alloc (.cells #[.bool true] 4)).alloc (.cells #[.slice none 0 0, .slice none 0 0] 25))
  have cz0 := z0.at 0 rfl
  have u0 : Blk ((((((w.alloc (.cells #[.slice ra R.length rc, .slice aa A.length ac] 25)).alloc (.cells #[.int .u64 se] 29)).alloc (.cells #[.int .u32 xf, .string xg, .string xb] 28)).alloc (.cells #[.bool true] 4)).alloc (.cells #[.bool true] 4)).alloc (.cells #[.slice none 0 0, .slice none 0 0] 25)) (w.heap.size + 1 + 1 + 1 + 1) [.bool true] := ((Blk.newAt ((((w.alloc (.cells #[.slice ra R.length rc, .slice aa A.length ac] 25)).alloc (.cells #[.int .u64 se] 29)).alloc (.cells #[.int .u32 xf, .string xg, .string xb] 28)).alloc (.cells #[.bool true] 4)) [.bool true] 4 (w.heap.size + 1 + 1 + 1 + 1) (by simp)).alloc (.cells #[.slice none 0 0, .slice none 0 0] 25))
  have cu0 := u0.at 0 rfl
  have v0 : Blk ((((((w.alloc (.cells #[.slice ra R.length rc, .slice aa A.length ac] 25)).alloc (.cells #[.int .u64 se] 29)).alloc (.cells #[.int .u32 xf, .string xg, .string xb] 28)).alloc (.cells #[.bool true] 4)).alloc (.cells #[.bool true] 4)).alloc (.cells #[.slice none 0 0, .slice none 0 0] 25)) (w.heap.size + 1 + 1 + 1 + 1 + 1) [.slice none 0 0, .slice none 0 0] := (Blk.newAt (((((w.alloc (.cells #[.slice ra R.length rc, .slice aa A.length ac] 25)).alloc (.cells #[.int .u64 se] 29)).alloc (.cells #[.int .u32 xf, .string xg, .string xb] 28)).alloc (.cells #[.bool true] 4)).alloc (.cells #[.bool true] 4)) [.slice none 0 0, .slice none 0 0] 25 (w.heap.size + 1 + 1 + 1 + 1 + 1) (by simp))
  have cv0 := v0.at 0 rfl
  have cv1 := v0.at 1 rfl
  have hz0 : w.heap.size + 6 ≤ ((((((w.alloc (.cells #[.slice ra R.length rc, .slice aa A.length ac] 25)).alloc (.cells #[.int .u64 se] 29)).alloc (.cells #[.int .u32 xf, .string xg, .string xb] 28)).alloc (.cells #[.bool true] 4)).alloc (.cells #[.bool true] 4)).alloc (.cells #[.slice none 0 0, .slice none 0 0] 25)).heap.size := by simp
  have hF : ∀ (args : Array Value) (u : World), (callFunc 48 args).run Try.prog u = .ok (.enter 48 args) u := fun _ _ => by kernel_rfl
  have hon := Lib.hid (on_any ((((((w.alloc (.cells #[.slice ra R.length rc, .slice aa A.length ac] 25)).alloc (.cells #[.int .u64 se] 29)).alloc (.cells #[.int .u32 xf, .string xg, .string xb] 28)).alloc (.cells #[.bool true] 4)).alloc (.cells #[.bool true] 4)).alloc (.cells #[.slice none 0 0, .slice none 0 0] 25)) _ _ R A false (xf, xg, xb) 48 #[.pointer (some ⟨w.heap.size + 1, 0, none⟩), .pointer (some ⟨w.heap.size + 1 + 1 + 1, 0, none⟩), .pointer (some ⟨w.heap.size + 1 + 1 + 1 + 1, 0, none⟩), .pointer (some ⟨w.heap.size + 1 + 1, 0, none⟩)] (startD R A se (xf, xg, xb) true true) (hR.pure hB0) (hA.pure hB0) hLR hLA hF (fun hTab hok hXid w1 tb rv1 av1 hB hpre => absurd hok (by decide)))
  clear hF
  generalize hD : overB (mayB R A false (xf, xg, xb)) (startD R A se (xf, xg, xb) true true) = D at hon ⊢
  clear hD
  go_enter Try.func13, Try.ntmps13
  go_wp2_with (first | (go_at_call 47; (with_reducible refine hon.out.mono ?_); rintro e w1 ⟨rv1, av1, rfl, hR1, hA1, hB1⟩; have v1 := v0.pure hB1; obtain ⟨ga, gc, rfl⟩ := own_len hR1; obtain ⟨ha, hc, rfl⟩ := own_len hA1; have f0 := v1.at 0 rfl; have f1 := v1.at 1 rfl; have f2 := v1.frozen 0; have f3 := v1.frozen 1; have hT1 := hB0.trans (hB1.mono hB0.size)))
  have rr := (v1.set 0 (.slice ga D.1.length gc)).set 1 (.slice ha D.2.1.length hc)
  have k0 := rr.at 0 rfl; have k1 := rr.at 1 rfl
  refine bodyPost_ret (by simp [results, Try.results13, go_sem, k0, k1]; rfl) rfl ?_
  refine ⟨_, _, rfl, ?_, ?_, ?_⟩
  · exact ((hR1.other _ _ (fun k hk e => by have := hR1.ge hk; rw [e] at this; simp at this; omega)).other _ _ (fun k hk e => by have := hR1.ge hk; rw [e] at this; simp at this; omega)).rebase (fun k hk => by have := hR1.ge hk; simp at this; omega)
  · exact ((hA1.other _ _ (fun k hk e => by have := hA1.ge hk; rw [e] at this; simp at this; omega)).other _ _ (fun k hk e => by have := hA1.ge hk; rw [e] at this; simp at this; omega)).rebase (fun k hk => by have := hA1.ge hk; simp at this; omega)
  · exact ((Upd.of_below hT1).trans (((Upd.set (S := fun k => w.heap.size + 5 = k) (p := ⟨w.heap.size + 1 + 1 + 1 + 1 + 1, 0, none⟩) rfl (.slice ga D.1.length gc)).trans (Upd.set (S := fun k => w.heap.size + 5 = k) (p := ⟨w.heap.size + 1 + 1 + 1 + 1 + 1, 1, none⟩) rfl (.slice ha D.2.1.length hc)) (fun _ h _ => h)).mono (T := fun k => w.heap.size ≤ k) (fun k h _ => by omega)) (fun _ h _ => h)).below (Nat.le_refl _) (fun k h => h)

set_option maxRecDepth 100000 in
set_option maxHeartbeats 1600000 in
theorem start_z (w : World) (rv av : Value) (R : List Brn) (A : List Asc) (se : Int) (x : Xid) (ja : Bool) (rb : Bool) (hse : (se != 0) = false) (hR : Slc brEnc 7 w rv R) (hA : Slc ascEnc 5 w av A) (hLR : R.length ≤ 1000000) (hLA : A.length ≤ 1000000) :
    Calls Try.prog 13 #[.agg #[rv, av], .int .u64 se, .agg #[.int .u32 x.1, .string x.2.1, .string x.2.2], .bool ja, .bool rb] w (TabPost w (overB (mayB R A false x) (startD R A se x ja rb))) := by
  have hmf : ∀ (fn : Fn) (first cap : Array Value) (w : World), (Instr.makeFunc fn first cap).run Try.prog w = .ok (.func fn first cap) w := fun _ _ _ _ => rfl
  obtain ⟨ra, rc, rfl, hm1⟩ := hR.len
  obtain ⟨aa, ac, rfl, hm2⟩ := hA.len
  obtain ⟨xf, xg, xb⟩ := x
  have hB0 : Below w.heap.size w ((((((w.alloc (.cells #[.slice ra R.length rc, .slice aa A.length ac] 25)).alloc (.cells #[.int .u64 se] 29)).alloc (.cells #[.int .u32 xf, .string xg, .string xb] 28)).alloc (.cells #[.bool ja] 4)).alloc (.cells #[.bool rb] 4)).alloc (.cells #[.slice none 0 0, .slice none 0 0] 25)) := (((((((Below.refl _ _).alloc (Nat.le_refl _) _).alloc (by simp) _).alloc (by simp; omega) _).alloc (by simp; omega) _).alloc (by simp; omega) _).alloc (by simp; omega) _)
  have t0 : Blk ((((((w.alloc (.cells #[.slice ra R.length rc, .slice aa A.length ac] 25)).alloc (.cells #[.int .u64 se] 29)).alloc (.cells #[.int .u32 xf, .string xg, .string xb] 28)).alloc (.cells #[.bool ja] 4)).alloc (.cells #[.bool rb] 4)).alloc (.cells #[.slice none 0 0, .slice none 0 0] 25)) (w.heap.size) [.slice ra R.length rc, .slice aa A.length ac] := ((((((Blk.newAt w [.slice ra R.length rc, .slice aa A.length ac] 25 (w.heap.size) (by simp)).alloc (.cells #[.int .u64 se] 29)).alloc (.cells #[.int .u32 xf, .string xg, .string xb] 28)).alloc (.cells #[.bool ja] 4)).alloc (.cells #[.bool rb] 4)).alloc (.cells #[.slice none 0 0, .slice none 0 0] 25))
  have ct0 := t0.at 0 rfl
  have ct1 := t0.at 1 rfl
  have x0 : Blk ((((((w.alloc (.cells #[.slice ra R.length rc, .slice aa A.length ac] 25)).alloc (.cells #[.int .u64 se] 29)).alloc (.cells #[.int .u32 xf, .string xg, .string xb] 28)).alloc (.cells #[.bool ja] 4)).alloc (.cells #[.bool rb] 4)).alloc (.cells #[.slice none 0 0, .slice none 0 0] 25)) (w.heap.size + 1) [.int .u64 se] := (((((Blk.newAt (w.alloc (.cells #[.slice ra R.length rc, .slice aa A.length ac] 25)) [.int .u64 se] 29 (w.heap.size + 1) (by simp)).alloc (.cells #[.int .u32 xf, .string xg, .string xb] 28)).alloc (.cells #[.bool ja] 4)).alloc (.cells #[.bool rb] 4)).alloc (.cells #[.slice none 0 0, .slice none 0 0] 25))
  have cx0 := x0.at 0 rfl
  have y0 : Blk ((((((w.alloc (.cells #[.slice ra R.length rc, .slice aa A.length ac] 25)).alloc (.cells #[.int .u64 se] 29)).alloc (.cells #[.int .u32 xf, .string xg, .string xb] 28)).alloc (.cells #[.bool ja] 4)).alloc (.cells #[.bool rb] 4)).alloc (.cells #[.slice none 0 0, .slice none 0 0] 25)) (w.heap.size + 1 + 1) [.int .u32 xf, .string xg, .string xb] := ((((Blk.newAt ((w.alloc (.cells #[.slice ra R.length rc, .slice aa A.length ac] 25)).alloc (.cells #[.int .u64 se] 29)) [.int .u32 xf, .string xg, .string xb] 28 (w.heap.size + 1 + 1) (by simp)).alloc (.cells #[.bool ja] 4)).alloc (.cells #[.bool rb] 4)).alloc (.cells #[.slice none 0 0, .slice none 0 0] 25))
  have cy0 := y0.at 0 rfl
  have cy1 := y0.at 1 rfl
  have cy2 := y0.at 2 rfl
  have z0 : Blk ((((((w.alloc (.cells #[.slice ra R.length rc, .slice aa A.length ac] 25)).alloc (.cells #[.int .u64 se] 29)).alloc (.cells #[.int .u32 xf, .string xg, .string xb] 28)).alloc (.cells #[.bool ja] 4)).alloc (.cells #[.bool rb] 4)).alloc (.cells #[.slice none 0 0, .slice none 0 0] 25)) (w.heap.size + 1 + 1 + 1) [.bool ja] := (((Blk.newAt (((w.alloc (.cells #[.slice ra R.length rc, .slice aa A.length ac] 25)).alloc (.cells #[.int .u64 se] 29)).alloc (.cells #[.int .u32 xf, .string xg, .string xb] 28)) [.bool ja] 4 (w.heap.size + 1 + 1 + 1) (by simp)).alloc (.cells #[.bool rb] 4)).alloc (.cells #[.slice none 0 0, .slice none 0 0] 25))
  have cz0 := z0.at 0 rfl
  have u0 : Blk ((((((w.alloc (.cells #[.slice ra R.length rc, .slice aa A.length ac] 25)).alloc (.cells #[.int .u64 se] 29)).alloc (.cells #[.int .u32 xf, .string xg, .string xb] 28)).alloc (.cells #[.bool ja] 4)).alloc (.cells #[.bool rb] 4)).alloc (.cells #[.slice none 0 0, .slice none 0 0] 25)) (w.heap.size + 1 + 1 + 1 + 1) [.bool rb] := ((Blk.newAt ((((w.alloc (.cells #[.slice ra R.length rc, .slice aa A.length ac] 25)).alloc (.cells #[.int .u64 se] 29)).alloc (.cells #[.int .u32 xf, .string xg, .string xb] 28)).alloc (.cells #[.bool ja] 4)) [.bool rb] 4 (w.heap.size + 1 + 1 + 1 + 1) (by simp)).alloc (.cells #[.slice none 0 0, .slice none 0 0] 25))
  have cu0 := u0.at 0 rfl
  have v0 : Blk ((((((w.alloc (.cells #[.slice ra R.length rc, .slice aa A.length ac] 25)).alloc (.cells #[.int .u64 se] 29)).alloc (.cells #[.int .u32 xf, .string xg, .string xb] 28)).alloc (.cells #[.bool ja] 4)).alloc (.cells #[.bool rb] 4)).alloc (.cells #[.slice none 0 0, .slice none 0 0] 25)) (w.heap.size + 1 + 1 + 1 + 1 + 1) [.slice none 0 0, .slice none 0 0] := (Blk.newAt (((((w.alloc (.cells #[.slice ra R.length rc, .slice aa A.length ac] 25)).alloc (.cells #[.int .u64 se] 29)).alloc (.cells #[.int .u32 xf, .string xg, .string xb] 28)).alloc (.cells #[.bool ja] 4)).alloc (.cells #[.bool rb] 4)) [.slice none 0 0, .slice none 0 0] 25 (w.heap.size + 1 + 1 + 1 + 1 + 1) (by simp))
  have cv0 := v0.at 0 rfl
  have cv1 := v0.at 1 rfl
  have hz0 : w.heap.size + 6 ≤ ((((((w.alloc (.cells #[.slice ra R.length rc, .slice aa A.length ac] 25)).alloc (.cells #[.int .u64 se] 29)).alloc (.cells #[.int .u32 xf, .string xg, .string xb] 28)).alloc (.cells #[.bool ja] 4)).alloc (.cells #[.bool rb] 4)).alloc (.cells #[.slice none 0 0, .slice none 0 0] 25)).heap.size := by simp
  have hF : ∀ (args : Array Value) (u : World), (callFunc 48 args).run Try.prog u = .ok (.enter 48 args) u := fun _ _ => by kernel_rfl
  have hon := Lib.hid (on_any ((((((w.alloc (.cells #[.slice ra R.length rc, .slice aa A.length ac] 25)).alloc (.cells #[.int .u64 se] 29)).alloc (.cells #[.int .u32 xf, .string xg, .string xb] 28)).alloc (.cells #[.bool ja] 4)).alloc (.cells #[.bool rb] 4)).alloc (.cells #[.slice none 0 0, .slice none 0 0] 25)) _ _ R A false (xf, xg, xb) 48 #[.pointer (some ⟨w.heap.size + 1, 0, none⟩), .pointer (some ⟨w.heap.size + 1 + 1 + 1, 0, none⟩), .pointer (some ⟨w.heap.size + 1 + 1 + 1 + 1, 0, none⟩), .pointer (some ⟨w.heap.size + 1 + 1, 0, none⟩)] (startD R A se (xf, xg, xb) ja rb) (hR.pure hB0) (hA.pure hB0) hLR hLA hF (fun hTab hok hXid w1 tb rv1 av1 hB hpre => absurd hok (by decide)))
  clear hF
  generalize hD : overB (mayB R A false (xf, xg, xb)) (startD R A se (xf, xg, xb) ja rb) = D at hon ⊢
  clear hD
  go_enter Try.func13, Try.ntmps13
  go_wp2_with (first | (go_at_call 47; (with_reducible refine hon.out.mono ?_); rintro e w1 ⟨rv1, av1, rfl, hR1, hA1, hB1⟩; have v1 := v0.pure hB1; obtain ⟨ga, gc, rfl⟩ := own_len hR1; obtain ⟨ha, hc, rfl⟩ := own_len hA1; have f0 := v1.at 0 rfl; have f1 := v1.at 1 rfl; have f2 := v1.frozen 0; have f3 := v1.frozen 1; have hT1 := hB0.trans (hB1.mono hB0.size)))
  have rr := (v1.set 0 (.slice ga D.1.length gc)).set 1 (.slice ha D.2.1.length hc)
  have k0 := rr.at 0 rfl; have k1 := rr.at 1 rfl
  refine bodyPost_ret (by simp [results, Try.results13, go_sem, k0, k1]; rfl) rfl ?_
  refine ⟨_, _, rfl, ?_, ?_, ?_⟩
  · exact ((hR1.other _ _ (fun k hk e => by have := hR1.ge hk; rw [e] at this; simp at this; omega)).other _ _ (fun k hk e => by have := hR1.ge hk; rw [e] at this; simp at this; omega)).rebase (fun k hk => by have := hR1.ge hk; simp at this; omega)
  · exact ((hA1.other _ _ (fun k hk e => by have := hA1.ge hk; rw [e] at this; simp at this; omega)).other _ _ (fun k hk e => by have := hA1.ge hk; rw [e] at this; simp at this; omega)).rebase (fun k hk => by have := hA1.ge hk; simp at this; omega)
  · exact ((Upd.of_below hT1).trans (((Upd.set (S := fun k => w.heap.size + 5 = k) (p := ⟨w.heap.size + 1 + 1 + 1 + 1 + 1, 0, none⟩) rfl (.slice ga D.1.length gc)).trans (Upd.set (S := fun k => w.heap.size + 5 = k) (p := ⟨w.heap.size + 1 + 1 + 1 + 1 + 1, 1, none⟩) rfl (.slice ha D.2.1.length hc)) (fun _ h _ => h)).mono (T := fun k => w.heap.size ≤ k) (fun k h _ => by omega)) (fun _ h _ => h)).below (Nat.le_refl _) (fun k h => h)

theorem start_fn (w : World) (rv av : Value) (R : List Brn) (A : List Asc) (se : Int) (x : Xid) (ja rb : Bool) (hR : Slc brEnc 7 w rv R) (hA : Slc ascEnc 5 w av A) (hLR : R.length ≤ 1000000) (hLA : A.length ≤ 1000000) :
    Calls Try.prog 13 #[.agg #[rv, av], .int .u64 se, .agg #[.int .u32 x.1, .string x.2.1, .string x.2.2], .bool ja, .bool rb] w (TabPost w (overB (mayB R A (okS se ja rb) x) (startD R A se x ja rb))) := by
  unfold okS
  by_cases h : se = 0
  · have e : (decide (se ≠ 0) && !(ja && rb)) = false := by simp [h]
    rw [e]; exact start_z w rv av R A se x ja rb (by simp [h]) hR hA hLR hLA
  · have e : decide (se ≠ 0) = true := decide_eq_true h
    have hn : (se != 0) = true := bne_iff_ne.2 h
    rw [e, Bool.true_and]
    cases ja <;> cases rb
    · exact start_ff w rv av R A se x hn hR hA hLR hLA
    · exact start_ft w rv av R A se x hn hR hA hLR hLA
    · exact start_tf w rv av R A se x hn hR hA hLR hLA
    · exact start_tt w rv av R A se x hn hR hA hLR hLA

set_option maxRecDepth 100000 in
set_option maxHeartbeats 1600000 in
theorem end_ff (w : World) (rv av : Value) (R : List Brn) (A : List Asc) (se : Int) (x : Xid) (hse : (se != 0) = true) (hR : Slc brEnc 7 w rv R) (hA : Slc ascEnc 5 w av A) (hLR : R.length ≤ 1000000) (hLA : A.length ≤ 1000000) :
    Calls Try.prog 16 #[.agg #[rv, av], .int .u64 se, .agg #[.int .u32 x.1, .string x.2.1, .string x.2.2], .bool false, .bool false] w (TabPost w (overB (mayB R A true x) (endD R A se x false false))) := by
  have hmf : ∀ (fn : Fn) (first cap : Array Value) (w : World), (Instr.makeFunc fn first cap).run Try.prog w = .ok (.func fn first cap) w := fun _ _ _ _ => rfl
  obtain ⟨ra, rc, rfl, hm1⟩ := hR.len
  obtain ⟨aa, ac, rfl, hm2⟩ := hA.len
  obtain ⟨xf, xg, xb⟩ := x
  have hB0 : Below w.heap.size w ((((((w.alloc (.cells #[.slice ra R.length rc, .slice aa A.length ac] 25)).alloc (.cells #[.int .u64 se] 29)).alloc (.cells #[.int .u32 xf, .string xg, .string xb] 28)).alloc (.cells #[.bool false] 4)).alloc (.cells #[.bool false] 4)).alloc (.cells #[.slice none 0 0, .slice none 0 0] 25)) := (((((((Below.refl _ _).alloc (Nat.le_refl _) _).alloc (by simp) _).alloc (by simp; omega) _).alloc (by simp; omega) _).alloc (by simp; omega) _).alloc (by simp; omega) _)
  have t0 : Blk ((((((w.alloc (.cells #[.slice ra R.length rc, .slice aa A.length ac] 25)).alloc (.cells #[.int .u64 se] 29)).alloc (.cells #[.int .u32 xf, .string xg, .string xb] 28)).alloc (.cells #[.bool false] 4)).alloc (.cells #[.bool false] 4)).alloc (.cells #[.slice none 0 0, .slice none 0 0] 25)) (w.heap.size) [.slice ra R.length rc, .slice aa A.length ac] := ((((((Blk.newAt w [.slice ra R.length rc, .slice aa A.length ac] 25 (w.heap.size) (by simp)).alloc (.cells #[.int .u64 se] 29)).alloc (.cells #[.int .u32 xf, .string xg, .string xb] 28)).alloc (.cells #[.bool false] 4)).alloc (.cells #[.bool false] 4)).alloc (.cells #[.slice none 0 0, .slice none 0 0] 25))
  have ct0 := t0.at 0 rfl
  have ct1 := t0.at 1 rfl
  have x0 : Blk ((((((w.alloc (.cells #[.slice ra R.length rc, .slice aa A.length ac] 25)).alloc (.cells #[.int .u64 se] 29)).alloc (.cells #[.int .u32 xf, .string xg, .string xb] 28)).alloc (.cells #[.bool false] 4)).alloc (.cells #[.bool false] 4)).alloc (.cells #[.slice none 0 0, .slice none 0 0] 25)) (w.heap.size + 1) [.int .u64 se] := (((((Blk.newAt (w.alloc (.cells #[.slice ra R.length rc, .slice aa A.length ac] 25)) [.int .u64 se] 29 (w.heap.size + 1) (by simp)).alloc (.cells #[.int .u32 xf, .string xg, .string xb] 28)).alloc (.cells #[.bool false] 4)).alloc (.cells #[.bool false] 4)).alloc (.cells #[.slice none 0 0, .slice none 0 0] 25))
  have cx0 := x0.at 0 rfl
  have y0 : Blk ((((((w.alloc (.cells #[.slice ra R.length rc, .slice aa A.length ac] 25)).alloc (.cells #[.int .u64 se] 29)).alloc (.cells #[.int .u32 xf, .string xg, .string xb] 28)).alloc (.cells #[.bool false] 4)).alloc (.cells #[.bool false] 4)).alloc (.cells #[.slice none 0 0, .slice none 0 0] 25)) (w.heap.size + 1 + 1) [.int .u32 xf, .string xg, .string xb] := ((((Blk.newAt ((w.alloc (.cells #[.slice ra R.length rc, .slice aa A.length ac] 25)).alloc (.cells #[.int .u64 se] 29)) [.int .u32 xf, .string xg, .string xb] 28 (w.heap.size + 1 + 1) (by simp)).alloc (.cells #[.bool false] 4)).alloc (.cells #[.bool false] 4)).alloc (.cells #[.slice none 0 0, .slice none 0 0] 25))
  have cy0 := y0.at 0 rfl
  have cy1 := y0.at 1 rfl
  have cy2 := y0.at 2 rfl
  have z0 : Blk ((((((w.alloc (.cells #[.slice ra R.length rc, .slice aa A.length ac] 25)).alloc (.cells #[.int .u64 se] 29)).alloc (.cells #[.int .u32 xf, .string xg, .string xb] 28)).alloc (.cells #[.bool false] 4)).alloc (.cells #[.bool false] 4)).alloc (.cells #[.slice none 0 0, .slice none 0 0] 25)) (w.heap.size + 1 + 1 + 1) [.bool false] := (((Blk.newAt (((w.alloc (.cells #[.slice ra R.length rc, .slice aa A.length ac] 25)).alloc (.cells #[.int .u64 se] 29)).alloc (.cells #[.int .u32 xf, .string xg, .string xb] 28)) [.bool false] 4 (w.heap.size + 1 + 1 + 1) (by simp)).alloc (.cells #[.bool false] 4)).alloc (.cells #[.slice none 0 0, .slice none 0 0] 25))
  have cz0 := z0.at 0 rfl
  have u0 : Blk ((((((w.alloc (.cells #[.slice ra R.length rc, .slice aa A.length ac] 25)).alloc (.cells #[.int .u64 se] 29)).alloc (.cells #[.int .u32 xf, .string xg, .string xb] 28)).alloc (.cells #[.bool false] 4)).alloc (.cells #[.bool false] 4)).alloc (.cells #[.slice none 0 0, .slice none 0 0] 25)) (w.heap.size + 1 + 1 + 1 + 1) [.bool false] := ((Blk.newAt ((((w.alloc (.cells #[.slice ra R.length rc, .slice aa A.length ac] 25)).alloc (.cells #[.int .u64 se] 29)).alloc (.cells #[.int .u32 xf, .string xg, .string xb] 28)).alloc (.cells #[.bool false] 4)) [.bool false] 4 (w.heap.size + 1 + 1 + 1 + 1) (by simp)).alloc (.cells #[.slice none 0 0, .slice none 0 0] 25))
  have cu0 := u0.at 0 rfl
  have v0 : Blk ((((((w.alloc (.cells #[.slice ra R.length rc, .slice aa A.length ac] 25)).alloc (.cells #[.int .u64 se] 29)).alloc (.cells #[.int .u32 xf, .string xg, .string xb] 28)).alloc (.cells #[.bool false] 4)).alloc (.cells #[.bool false] 4)).alloc (.cells #[.slice none 0 0, .slice none 0 0] 25)) (w.heap.size + 1 + 1 + 1 + 1 + 1) [.slice none 0 0, .slice none 0 0] := (Blk.newAt (((((w.alloc (.cells #[.slice ra R.length rc, .slice aa A.length ac] 25)).alloc (.cells #[.int .u64 se] 29)).alloc (.cells #[.int .u32 xf, .string xg, .string xb] 28)).alloc (.cells #[.bool false] 4)).alloc (.cells #[.bool false] 4)) [.slice none 0 0, .slice none 0 0] 25 (w.heap.size + 1 + 1 + 1 + 1 + 1) (by simp))
  have cv0 := v0.at 0 rfl
  have cv1 := v0.at 1 rfl
  have hz0 : w.heap.size + 6 ≤ ((((((w.alloc (.cells #[.slice ra R.length rc, .slice aa A.length ac] 25)).alloc (.cells #[.int .u64 se] 29)).alloc (.cells #[.int .u32 xf, .string xg, .string xb] 28)).alloc (.cells #[.bool false] 4)).alloc (.cells #[.bool false] 4)).alloc (.cells #[.slice none 0 0, .slice none 0 0] 25)).heap.size := by simp
  have hF : ∀ (args : Array Value) (u : World), (callFunc 64 args).run Try.prog u = .ok (.enter 64 args) u := fun _ _ => by kernel_rfl
  have hon := Lib.hid (on_any ((((((w.alloc (.cells #[.slice ra R.length rc, .slice aa A.length ac] 25)).alloc (.cells #[.int .u64 se] 29)).alloc (.cells #[.int .u32 xf, .string xg, .string xb] 28)).alloc (.cells #[.bool false] 4)).alloc (.cells #[.bool false] 4)).alloc (.cells #[.slice none 0 0, .slice none 0 0] 25)) _ _ R A true (xf, xg, xb) 64 #[.pointer (some ⟨w.heap.size + 1 + 1, 0, none⟩), .pointer (some ⟨w.heap.size + 1, 0, none⟩), .pointer (some ⟨w.heap.size + 1 + 1 + 1 + 1, 0, none⟩), .pointer (some ⟨w.heap.size + 1 + 1 + 1, 0, none⟩)] (endD R A se (xf, xg, xb) false false) (hR.pure hB0) (hA.pure hB0) hLR hLA hF (fun hTab hok hXid w1 tb rv1 av1 hB hpre => end_do _ w1 tb rv1 av1 R A (w.heap.size + 1 + 1) (w.heap.size + 1) (w.heap.size + 1 + 1 + 1 + 1) (w.heap.size + 1 + 1 + 1) se _ _ (xf, xg, xb) (y0.below hB (by simp)) (x0.below hB (by simp)) (u0.below hB (by simp)) (z0.below hB (by simp)) (by simp) (by simp) (by simp) (by simp) (mayN_zero hTab.2.1 (by simpa using hse) hXid) hpre hTab.1.2 hLR hLA))
  clear hF
  generalize hD : overB (mayB R A true (xf, xg, xb)) (endD R A se (xf, xg, xb) false false) = D at hon ⊢
  clear hD
  go_enter Try.func16, Try.ntmps16
  go_wp2_with (first | (go_at_call 47; (with_reducible refine hon.out.mono ?_); rintro e w1 ⟨rv1, av1, rfl, hR1, hA1, hB1⟩; have v1 := v0.pure hB1; obtain ⟨ga, gc, rfl⟩ := own_len hR1; obtain ⟨ha, hc, rfl⟩ := own_len hA1; have f0 := v1.at 0 rfl; have f1 := v1.at 1 rfl; have f2 := v1.frozen 0; have f3 := v1.frozen 1; have hT1 := hB0.trans (hB1.mono hB0.size)))
  have rr := (v1.set 0 (.slice ga D.1.length gc)).set 1 (.slice ha D.2.1.length hc)
  have k0 := rr.at 0 rfl; have k1 := rr.at 1 rfl
  refine bodyPost_ret (by simp [results, Try.results16, go_sem, k0, k1]; rfl) rfl ?_
  refine ⟨_, _, rfl, ?_, ?_, ?_⟩
  · exact ((hR1.other _ _ (fun k hk e => by have := hR1.ge hk; rw [e] at this; simp at this; omega)).other _ _ (fun k hk e => by have := hR1.ge hk; rw [e] at this; simp at this; omega)).rebase (fun k hk => by have := hR1.ge hk; simp at this; omega)
  · exact ((hA1.other _ _ (fun k hk e => by have := hA1.ge hk; rw [e] at this; simp at this; omega)).other _ _ (fun k hk e => by have := hA1.ge hk; rw [e] at this; simp at this; omega)).rebase (fun k hk => by have := hA1.ge hk; simp at this; omega)
  · exact ((Upd.of_below hT1).trans (((Upd.set (S := fun k => w.heap.size + 5 = k) (p := ⟨w.heap.size + 1 + 1 + 1 + 1 + 1, 0, none⟩) rfl (.slice ga D.1.length gc)).trans (Upd.set (S := fun k => w.heap.size + 5 = k) (p := ⟨w.heap.size + 1 + 1 + 1 + 1 + 1, 1, none⟩) rfl (.slice ha D.2.1.length hc)) (fun _ h _ => h)).mono (T := fun k => w.heap.size ≤ k) (fun k h _ => by omega)) (fun _ h _ => h)).below (Nat.le_refl _) (fun k h => h)

set_option maxRecDepth 100000 in
set_option maxHeartbeats 1600000 in
theorem end_ft (w : World) (rv av : Value) (R : List Brn) (A : List Asc) (se : Int) (x : Xid) (hse : (se != 0) = true) (hR : Slc brEnc 7 w rv R) (hA : Slc ascEnc 5 w av A) (hLR : R.length ≤ 1000000) (hLA : A.length ≤ 1000000) :
    Calls Try.prog 16 #[.agg #[rv, av], .int .u64 se, .agg #[.int .u32 x.1, .string x.2.1, .string x.2.2], .bool false, .bool true] w (TabPost w (overB (mayB R A true x) (endD R A se x false true))) := by
  have hmf : ∀ (fn : Fn) (first cap : Array Value) (w : World), (Instr.makeFunc fn first cap).run Try.prog w = .ok (.func fn first cap) w := fun _ _ _ _ => rfl
  obtain ⟨ra, rc, rfl, hm1⟩ := hR.len
  obtain ⟨aa, ac, rfl, hm2⟩ := hA.len
  obtain ⟨xf, xg, xb⟩ := x
  have hB0 : Below w.heap.size w ((((((w.alloc (.cells #[.slice ra R.length rc, .slice aa A.length ac] 25)).alloc (.cells #[.int .u64 se] 29)).alloc (.cells #[.int .u32 xf, .string xg, .string xb] 28)).alloc (.cells #[.bool false] 4)).alloc (.cells #[.bool true] 4)).alloc (.cells #[.slice none 0 0, .slice none 0 0] 25)) := (((((((Below.refl _ _).alloc (Nat.le_refl _) _).alloc (by simp) _).alloc (by simp; omega) _).alloc (by simp; omega) _).alloc (by simp; omega) _).alloc (by simp; omega) _)
  have t0 : Blk ((((((w.alloc (.cells #[.slice ra R.length rc, .slice aa A.length ac] 25)).alloc (.cells #[.int .u64 se] 29)).alloc (.cells #[.int .u32 xf, .string xg, .string xb] 28)).alloc (.cells #[.bool false] 4)).alloc (.cells #[.bool true] 4)).alloc (.cells #[.slice none 0 0, .slice none 0 0] 25)) (w.heap.size) [.slice ra R.length rc, .slice aa A.length ac] := ((((((Blk.newAt w [.slice ra R.length rc, .slice aa A.length ac] 25 (w.heap.size) (by simp)).alloc (.cells #[.int .u64 se] 29)).alloc (.cells #[.int .u32 xf, .string xg, .string xb] 28)).alloc (.cells #[.bool false] 4)).alloc (.cells #[.bool true] 4)).alloc (.cells #[.slice none 0 0, .slice none 0 0] 25))
  have ct0 := t0.at 0 rfl
  have ct1 := t0.at 1 rfl
  have x0 : Blk ((((((w.alloc (.cells #[.slice ra R.length rc, .slice aa A.length ac] 25)).alloc (.cells #[.int .u64 se] 29)).alloc (.cells #[.int .u32 xf, .string xg, .string xb] 28)).alloc (.cells #[.bool false] 4)).alloc (.cells #[.bool true] 4)).alloc (.cells #[.slice none 0 0, .slice none 0 0] 25)) (w.heap.size + 1) [.int .u64 se] := (((((Blk.newAt (w.alloc (.cells #[.slice ra R.length rc, .slice aa A.length ac] 25)) [.int .u64 se] 29 (w.heap.size + 1) (by simp)).alloc (.cells #[.int .u32 xf, .string xg, .string xb] 28)).alloc (.cells #[.bool false] 4)).alloc (.cells #[.bool true] 4)).alloc (.cells #[.slice none 0 0, .slice none 0 0] 25))
  have cx0 := x0.at 0 rfl
  have y0 : Blk ((((((w.alloc (.cells #[.slice ra R.length rc, .slice aa A.length ac] 25)).alloc (.cells #[.int .u64 se] 29)).alloc (.cells #[.int .u32 xf, .string xg, .string xb] 28)).alloc (.cells #[.bool false] 4)).alloc (.cells #[.bool true] 4)).alloc (.cells #[.slice none 0 0, .slice none 0 0] 25)) (w.heap.size + 1 + 1) [.int .u32 xf, .string xg, .string xb] := ((((Blk.newAt ((w.alloc (.cells #[.slice ra R.length rc, .slice aa A.length ac] 25)).alloc (.cells #[.int .u64 se] 29)) [.int .u32 xf, .string xg, .string xb] 28 (w.heap.size + 1 + 1) (by simp)).alloc (.cells #[.bool false] 4)).alloc (.cells #[.bool true] 4)).alloc (.cells #[.slice none 0 0, .slice none 0 0] 25))
  have cy0 := y0.at 0 rfl
  have cy1 := y0.at 1 rfl
  have cy2 := y0.at 2 rfl
  have z0 : Blk ((((((w.alloc (.cells #[.slice ra R.length rc, .slice aa A.length ac] 25)).alloc (.cells #[.int .u64 se] 29)).alloc (.cells #[.int .u32 xf, .string xg, .string xb] 28)).alloc (.cells #[.bool false] 4)).alloc (.cells #[.bool true] 4)).alloc (.cells #[.slice none 0 0, .slice none 0 0] 25)) (w.heap.size + 1 + 1 + 1) [.bool false] := (((Blk.newAt (((w.alloc (.cells #[.slice ra R.length rc, .slice aa A.length ac] 25)).alloc (.cells #[.int .u64 se] 29)).alloc (.cells #[.int .u32 xf, .string xg, .string xb] 28)) [.bool false] 4 (w.heap.size + 1 + 1 + 1) (by simp)).alloc (.cells #[.bool true] 4)).alloc (.cells #[.slice none 0 0, .slice none 0 0] 25))
  have cz0 := z0.at 0 rfl
  have u0 : Blk ((((((w.alloc (.cells #[.slice ra R.length rc, .slice aa A.length ac] 25)).alloc (.cells #[.int .u64 se] 29)).alloc (.cells #[.int .u32 xf, .string xg, .string xb] 28)).alloc (.cells #[.bool false] 4)).alloc (.cells #[.bool true] 4)).alloc (.cells #[.slice none 0 0, .slice none 0 0] 25)) (w.heap.size + 1 + 1 + 1 + 1) [.bool true] := ((Blk.newAt ((((w.alloc (.cells #[.slice ra R.length rc, .slice aa A.length ac] 25)).alloc (.cells #[.int .u64 se] 29)).alloc (.cells #[.int .u32 xf, .string xg, .string xb] 28)).alloc (.cells #[.bool false] 4)) [.bool true] 4 (w.heap.size + 1 + 1 + 1 + 1) (by simp)).alloc (.cells #[.slice none 0 0, .slice none 0 0] 25))
  have cu0 := u0.at 0 rfl
  have v0 : Blk ((((((w.alloc (.cells #[.slice ra R.length rc, .slice aa A.length ac] 25)).alloc (.cells #[.int .u64 se] 29)).alloc (.cells #[.int .u32 xf, .string xg, .string xb] 28)).alloc (.cells #[.bool false] 4)).alloc (.cells #[.bool true] 4)).alloc (.cells #[.slice none 0 0, .slice none 0 0] 25)) (w.heap.size + 1 + 1 + 1 + 1 + 1) [.slice none 0 0, .slice none 0 0] := (Blk.newAt (((((w.alloc (.cells #[.slice ra R.length rc, .slice aa A.length ac] 25)).alloc (.cells #[.int .u64 se] 29)).alloc (.cells #[.int .u32 xf, .string xg, .string xb] 28)).alloc (.cells #[.bool false] 4)).alloc (.cells #[.bool true] 4)) [.slice none 0 0, .slice none 0 0] 25 (w.heap.size + 1 + 1 + 1 + 1 + 1) (by simp))
  have cv0 := v0.at 0 rfl
  have cv1 := v0.at 1 rfl
  have hz0 : w.heap.size + 6 ≤ ((((((w.alloc (.cells #[.slice ra R.length rc, .slice aa A.length ac] 25)).alloc (.cells #[.int .u64 se] 29)).alloc (.cells #[.int .u32 xf, .string xg, .string xb] 28)).alloc (.cells #[.bool false] 4)).alloc (.cells #[.bool true] 4)).alloc (.cells #[.slice none 0 0, .slice none 0 0] 25)).heap.size := by simp
  have hF : ∀ (args : Array Value) (u : World), (callFunc 64 args).run Try.prog u = .ok (.enter 64 args) u := fun _ _ => by kernel_rfl
  have hon := Lib.hid (on_any ((((((w.alloc (.cells #[.slice ra R.length rc, .slice aa A.length ac] 25)).alloc (.cells #[.int .u64 se] 29)).alloc (.cells #[.int .u32 xf, .string xg, .string xb] 28)).alloc (.cells #[.bool false] 4)).alloc (.cells #[.bool true] 4)).alloc (.cells #[.slice none 0 0, .slice none 0 0] 25)) _ _ R A true (xf, xg, xb) 64 #[.pointer (some ⟨w.heap.size + 1 + 1, 0, none⟩), .pointer (some ⟨w.heap.size + 1, 0, none⟩), .pointer (some ⟨w.heap.size + 1 + 1 + 1 + 1, 0, none⟩), .pointer (some ⟨w.heap.size + 1 + 1 + 1, 0, none⟩)] (endD R A se (xf, xg, xb) false true) (hR.pure hB0) (hA.pure hB0) hLR hLA hF (fun hTab hok hXid w1 tb rv1 av1 hB hpre => end_do _ w1 tb rv1 av1 R A (w.heap.size + 1 + 1) (w.heap.size + 1) (w.heap.size + 1 + 1 + 1 + 1) (w.heap.size + 1 + 1 + 1) se _ _ (xf, xg, xb) (y0.below hB (by simp)) (x0.below hB (by simp)) (u0.below hB (by simp)) (z0.below hB (by simp)) (by simp) (by simp) (by simp) (by simp) (mayN_zero hTab.2.1 (by simpa using hse) hXid) hpre hTab.1.2 hLR hLA))
  clear hF
  generalize hD : overB (mayB R A true (xf, xg, xb)) (endD R A se (xf, xg, xb) false true) = D at hon ⊢
  clear hD
  go_enter Try.func16, Try.ntmps16
  go_wp2_with (first | (go_at_call 47; (with_reducible refine hon.out.mono ?_); rintro e w1 ⟨rv1, av1, rfl, hR1, hA1, hB1⟩; have v1 := v0.pure hB1; obtain ⟨ga, gc, rfl⟩ := own_len hR1; obtain ⟨ha, hc, rfl⟩ := own_len hA1; have f0 := v1.at 0 rfl; have f1 := v1.at 1 rfl; have f2 := v1.frozen 0; have f3 := v1.frozen 1; have hT1 := hB0.trans (hB1.mono hB0.size)))
  have rr := (v1.set 0 (.slice ga D.1.length gc)).set 1 (.slice ha D.2.1.length hc)
  have k0 := rr.at 0 rfl; have k1 := rr.at 1 rfl
  refine bodyPost_ret (by simp [results, Try.results16, go_sem, k0, k1]; rfl) rfl ?_
  refine ⟨_, _, rfl, ?_, ?_, ?_⟩
  · exact ((hR1.other _ _ (fun k hk e => by have := hR1.ge hk; rw [e] at this; simp at this; omega)).other _ _ (fun k hk e => by have := hR1.ge hk; rw [e] at this; simp at this; omega)).rebase (fun k hk => by have := hR1.ge hk; simp at this; omega)
  · exact ((hA1.other _ _ (fun k hk e => by have := hA1.ge hk; rw [e] at this; simp at this; omega)).other _ _ (fun k hk e => by have := hA1.ge hk; rw [e] at this; simp at this; omega)).rebase (fun k hk => by have := hA1.ge hk; simp at this; omega)
  · exact ((Upd.of_below hT1).trans (((Upd.set (S := fun k => w.heap.size + 5 = k) (p := ⟨w.heap.size + 1 + 1 + 1 + 1 + 1, 0, none⟩) rfl (.slice ga D.1.length gc)).trans (Upd.set (S := fun k => w.heap.size + 5 = k) (p := ⟨w.heap.size + 1 + 1 + 1 + 1 + 1, 1, none⟩) rfl (.slice ha D.2.1.length hc)) (fun _ h _ => h)).mono (T := fun k => w.heap.size ≤ k) (fun k h _ => by omega)) (fun _ h _ => h)).below (Nat.le_refl _) (fun k h => h)

set_option maxRecDepth 100000 in
set_option maxHeartbeats 1600000 in
theorem end_tf (w : World) (rv av : Value) (R : List Brn) (A : List Asc) (se : Int) (x : Xid) (hse : (se != 0) = true) (hR : Slc brEnc 7 w rv R) (hA : Slc ascEnc 5 w av A) (hLR : R.length ≤ 1000000) (hLA : A.length ≤ 1000000) :
    Calls Try.prog 16 #[.agg #[rv, av], .int .u64 se, .agg #[.int .u32 x.1, .string x.2.1, .string x.2.2], .bool true, .bool false] w (TabPost w (overB (mayB R A true x) (endD R A se x true false))) := by
  have hmf : ∀ (fn : Fn) (first cap : Array Value) (w : World), (Instr.makeFunc fn first cap).run Try.prog w = .ok (.func fn first cap) w := fun _ _ _ _ => rfl
  obtain ⟨ra, rc, rfl, hm1⟩ := hR.len
  obtain ⟨aa, ac, rfl, hm2⟩ := hA.len
  obtain ⟨xf, xg, xb⟩ := x
  have hB0 : Below w.heap.size w ((((((w.alloc (.cells #[.slice ra R.length rc, .slice aa A.length ac] 25)).alloc (.cells #[.int .u64 se] 29)).alloc (.cells #[.int .u32 xf, .string xg, .string xb] 28)).alloc (.cells #[.bool true] 4)).alloc (.cells #[.bool false] 4)).alloc (.cells #[.slice none 0 0, .slice none 0 0] 25)) := (((((((Below.refl _ _).alloc (Nat.le_refl _) _).alloc (by simp) _).alloc (by simp; omega) _).alloc (by simp; omega) _).alloc (by simp; omega) _).alloc (by simp; omega) _)
  have t0 : Blk ((((((w.alloc (.cells #[.slice ra R.length rc, .slice aa A.length ac] 25)).alloc (.cells #[.int .u64 se] 29)).alloc (.cells #[.int .u32 xf, .string xg, .string xb] 28)).alloc (.cells #[.bool true] 4)).alloc (.cells #[.bool false] 4)).alloc (.cells #[.slice none 0 0, .slice none 0 0] 25)) (w.heap.size) [.slice ra R.length rc, .slice aa A.length ac] := ((((((Blk.newAt w [.slice ra R.length rc, .slice aa A.length ac] 25 (w.heap.size) (by simp)).alloc (.cells #[.int .u64 se] 29)).alloc (.cells #[.int .u32 xf, .string xg, .string xb] 28)).alloc (.cells #[.bool true] 4)).alloc (.cells #[.bool false] 4)).alloc (.cells #[.slice none 0 0, .slice none 0 0] 25))
  have ct0 := t0.at 0 rfl
  have ct1 := t0.at 1 rfl
  have x0 : Blk ((((((w.alloc (.cells #[.slice ra R.length rc, .slice aa A.length ac] 25)).alloc (.cells #[.int .u64 se] 29)).alloc (.cells #[.int .u32 xf, .string xg, .string xb] 28)).alloc (.cells #[.bool true] 4)).alloc (.cells #[.bool false] 4)).alloc (.cells #[.slice none 0 0, .slice none 0 0] 25)) (w.heap.size + 1) [.int .u64 se] := (((((Blk.newAt (w.alloc (.cells #[.slice ra R.length rc, .slice aa A.length ac] 25)) [.int .u64 se] 29 (w.heap.size + 1) (by simp)).alloc (.cells #[.int .u32 xf, .string xg, .string xb] 28)).alloc (.cells #[.bool true] 4)).alloc (.cells #[.bool false] 4)).alloc (.cells #[.slice none 0 0, .slice none 0 0] 25))
  have cx0 := x0.at 0 rfl
  have y0 : Blk ((((((w.alloc (.cells #[.slice ra R.length rc, .slice aa A.length ac] 25)).alloc (.cells #[.int .u64 se] 29)).alloc (.cells #[.int .u32 xf, .string xg, .string xb] 28)).alloc (.cells #[.bool true] 4)).alloc (.cells #[.bool false] 4)).alloc (.cells #[.slice none 0 0, .slice none 0 0] 25)) (w.heap.size + 1 + 1) [.int .u32 xf, .string xg, .string xb] := ((((Blk.newAt ((w.alloc (.cells #[.slice ra R.length rc, .slice aa A.length ac] 25)).alloc (.cells #[.int .u64 se] 29)) [.int .u32 xf, .string xg, .string xb] 28 (w.heap.size + 1 + 1) (by simp)).alloc (.cells #[.bool true] 4)).alloc (.cells #[.bool false] 4)).alloc (.cells #[.slice none 0 0, .slice none 0 0] 25))
  have cy0 := y0.at 0 rfl
  have cy1 := y0.at 1 rfl
  have cy2 := y0.at 2 rfl
  have z0 : Blk ((((((w.alloc (.cells #[.slice ra R.length rc, .slice aa A.length ac] 25)).alloc (.cells #[.int .u64 se] 29)).alloc (.cells #[.int .u32 xf, .string xg, .string xb] 28)).alloc (.cells #[.bool true] 4)).alloc (.cells #[.bool false] 4)).alloc (.cells #[.slice none 0 0, .slice none 0 0] 25)) (w.heap.size + 1 + 1 + 1) [.bool true] := (((Blk.newAt (((w.alloc (.cells #[.slice ra R.length rc, .slice aa A.length ac] 25)).alloc (.cells #[.int .u64 se] 29)).alloc (.cells #[.int .u32 xf, .string xg, .string xb] 28)) [.bool true] 4 (w.heap.size + 1 + 1 + 1) (by simp)).alloc (.cells #[.bool false] 4)).alloc (.cells #[.slice none 0 0, .slice none 0 0] 25))
  have cz0 := z0.at 0 rfl
  have u0 : Blk ((((((w.alloc (.cells #[.slice ra R.length rc, .slice aa A.length ac] 25)).alloc (.cells #[.int .u64 se] 29)).alloc (.cells #[.int .u32 xf, .string xg, .string xb] 28)).alloc (.cells #[.bool true] 4)).alloc (.cells #[.bool false] 4)).alloc (.cells #[.slice none 0 0, .slice none 0 0] 25)) (w.heap.size + 1 + 1 + 1 + 1) [.bool false] := ((Blk.newAt ((((w.alloc (.cells #[.slice ra R.length rc, .slice aa A.length ac] 25)).alloc (.cells #[.int .u64 se] 29)).alloc (.cells #[.int .u32 xf, .string xg, .string xb] 28)).alloc (.cells #[.bool true] 4)) [.bool false] 4 (w.heap.size + 1 + 1 + 1 + 1) (by simp)).alloc (.cells #[.slice none 0 0, .slice none 0 0] 25))
  have cu0 := u0.at 0 rfl
  have v0 : Blk ((((((w.alloc (.cells #[.slice ra R.length rc, .slice aa A.length ac] 25)).alloc (.cells #[.int .u64 se] 29)).alloc (.cells #[.int .u32 xf, .string xg, .string xb] 28)).alloc (.cells #[.bool true] 4)).alloc (.cells #[.bool false] 4)).alloc (.cells #[.slice none 0 0, .slice none 0 0] 25)) (w.heap.size + 1 + 1 + 1 + 1 + 1) [.slice none 0 0, .slice none 0 0] := (Blk.newAt (((((w.alloc (.cells #[.slice ra R.length rc, .slice aa A.length ac] 25)).alloc (.cells #[.int .u64 se] 29)).alloc (.cells #[.int .u32 xf, .string xg, .string xb] 28)).alloc (.cells #[.bool true] 4)).alloc (.cells #[.bool false] 4)) [.slice none 0 0, .slice none 0 0] 25 (w.heap.size + 1 + 1 + 1 + 1 + 1) (by simp))
  have cv0 := v0.at 0 rfl
  have cv1 := v0.at 1 rfl
  have hz0 : w.heap.size + 6 ≤ ((((((w.alloc (.cells #[.slice ra R.length rc, .slice aa A.length ac] 25)).alloc (.cells #[.int .u64 se] 29)).alloc (.cells #[.int .u32 xf, .string xg, .string xb] 28)).alloc (.cells #[.bool true] 4)).alloc (.cells #[.bool false] 4)).alloc (.cells #[.slice none 0 0, .slice none 0 0] 25)).heap.size := by simp
  have hF : ∀ (args : Array Value) (u : World), (callFunc 64 args).run Try.prog u = .ok (.enter 64 args) u := fun _ _ => by kernel_rfl
  have hon := Lib.hid (on_any ((((((w.alloc (.cells #[.slice ra R.length rc, .slice aa A.length ac] 25)).alloc (.cells #[.int .u64 se] 29)).alloc (.cells #[.int .u32 xf, .string xg, .string xb] 28)).alloc (.cells #[.bool true] 4)).alloc (.cells #[.bool false] 4)).alloc (.cells #[.slice none 0 0, .slice none 0 0] 25)) _ _ R A true (xf, xg, xb) 64 #[.pointer (some ⟨w.heap.size + 1 + 1, 0, none⟩), .pointer (some ⟨w.heap.size + 1, 0, none⟩), .pointer (some ⟨w.heap.size + 1 + 1 + 1 + 1, 0, none⟩), .pointer (some ⟨w.heap.size + 1 + 1 + 1, 0, none⟩)] (endD R A se (xf, xg, xb) true false) (hR.pure hB0) (hA.pure hB0) hLR hLA hF (fun hTab hok hXid w1 tb rv1 av1 hB hpre => end_do _ w1 tb rv1 av1 R A (w.heap.size + 1 + 1) (w.heap.size + 1) (w.heap.size + 1 + 1 + 1 + 1) (w.heap.size + 1 + 1 + 1) se _ _ (xf, xg, xb) (y0.below hB (by simp)) (x0.below hB (by simp)) (u0.below hB (by simp)) (z0.below hB (by simp)) (by simp) (by simp) (by simp) (by simp) (mayN_zero hTab.2.1 (by simpa using hse) hXid) hpre hTab.1.2 hLR hLA))
  clear hF
  generalize hD : overB (mayB R A true (xf, xg, xb)) (endD R A se (xf, xg, xb) true false) = D at hon ⊢
  clear hD
  go_enter Try.func16, Try.ntmps16
  go_wp2_with (first | (go_at_call 47; (with_reducible refine hon.out.mono ?_); rintro e w1 ⟨rv1, av1, rfl, hR1, hA1, hB1⟩; have v1 := v0.pure hB1; obtain ⟨ga, gc, rfl⟩ := own_len hR1; obtain ⟨ha, hc, rfl⟩ := own_len hA1; have f0 := v1.at 0 rfl; have f1 := v1.at 1 rfl; have f2 := v1.frozen 0; have f3 := v1.frozen 1; have hT1 := hB0.trans (hB1.mono hB0.size)))
  have rr := (v1.set 0 (.slice ga D.1.length gc)).set 1 (.slice ha D.2.1.length hc)
  have k0 := rr.at 0 rfl; have k1 := rr.at 1 rfl
  refine bodyPost_ret (by simp [results, Try.results16, go_sem, k0, k1]; rfl) rfl ?_
  refine ⟨_, _, rfl, ?_, ?_, ?_⟩
  · exact ((hR1.other _ _ (fun k hk e => by have := hR1.ge hk; rw [e] at this; simp at this; omega)).other _ _ (fun k hk e => by have := hR1.ge hk; rw [e] at this; simp at this; omega)).rebase (fun k hk => by have := hR1.ge hk; simp at this; omega)
  · exact ((hA1.other _ _ (fun k hk e => by have := hA1.ge hk; rw [e] at this; simp at this; omega)).other _ _ (fun k hk e => by have := hA1.ge hk; rw [e] at this; simp at this; omega)).rebase (fun k hk => by have := hA1.ge hk; simp at this; omega)
  · exact ((Upd.of_below hT1).trans (((Upd.set (S := fun k => w.heap.size + 5 = k) (p := ⟨w.heap.size + 1 + 1 + 1 + 1 + 1, 0, none⟩) rfl (.slice ga D.1.length gc)).trans (Upd.set (S := fun k => w.heap.size + 5 = k) (p := ⟨w.heap.size + 1 + 1 + 1 + 1 + 1, 1, none⟩) rfl (.slice ha D.2.1.length hc)) (fun _ h _ => h)).mono (T := fun k => w.heap.size ≤ k) (fun k h _ => by omega)) (fun _ h _ => h)).below (Nat.le_refl _) (fun k h => h)

set_option maxRecDepth 100000 in
set_option maxHeartbeats 1600000 in
theorem end_tt (w : World) (rv av : Value) (R : List Brn) (A : List Asc) (se : Int) (x : Xid) (hse : (se != 0) = true) (hR : Slc brEnc 7 w rv R) (hA : Slc ascEnc 5 w av A) (hLR : R.length ≤ 1000000) (hLA : A.length ≤ 1000000) :
    Calls Try.prog 16 #[.agg #[rv, av], .int .u64 se, .agg #[.int .u32 x.1, .string x.2.1, .string x.2.2], .bool true, .bool true] w (TabPost w (overB (mayB R A false x) (endD R A se x true true))) := by
  have hmf : ∀ (fn : Fn) (first cap : Array Value) (w : World), (Instr.makeFunc fn first cap).run Try.prog w = .ok (.func fn first cap) w := fun _ _ _ _ => rfl
  obtain ⟨ra, rc, rfl, hm1⟩ := hR.len
  obtain ⟨aa, ac, rfl, hm2⟩ := hA.len
  obtain ⟨xf, xg, xb⟩ := x
  have hB0 : Below w.heap.size w ((((((w.alloc (.cells #[.slice ra R.length rc, .slice aa A.length ac] 25)).alloc (.cells #[.int .u64 se] 29)).alloc (.cells #[.int .u32 xf, .string xg, .string xb] 28)).alloc (.cells #[.bool true] 4)).alloc (.cells #[.bool true] 4)).alloc (.cells #[.slice none 0 0, .slice none 0 0] 25)) := (((((((Below.refl _ _).alloc (Nat.le_refl _) _).alloc (by simp) _).alloc (by simp; omega) _).alloc (by simp; omega) _).alloc (by simp; omega) _).alloc (by simp; omega) _)
  have t0 : Blk ((((((w.alloc (.cells #[.slice ra R.length rc, .slice aa A.length ac] 25)).alloc (.cells #[.int .u64 se] 29)).alloc (.cells #[.int .u32 xf, .string xg, .string xb] 28)).alloc (.cells #[.bool true] 4)).alloc (.cells #[.bool true] 4)).alloc (.cells #[.slice none 0 0, .slice none 0 0] 25)) (w.heap.size) [.slice ra R.length rc, .slice aa A.length ac] := ((((((Blk.newAt w [.slice ra R.length rc, .slice aa A.length ac] 25 (w.heap.size) (by simp)).alloc (.cells #[.int .u64 se] 29)).alloc (.cells #[.int .u32 xf, .string xg, .string xb] 28)).alloc (.cells #[.bool true] 4)).alloc (.cells #[.bool true] 4)).alloc (.cells #[.slice none 0 0, .slice none 0 0] 25))
  have ct0 := t0.at 0 rfl
  have ct1 := t0.at 1 rfl
  have x0 : Blk ((((((w.alloc (.cells #[.slice ra R.length rc, .slice aa A.length ac] 25)).alloc (.cells #[.int .u64 se] 29)).alloc (.cells #[.int .u32 xf, .string xg, .string xb] 28)).alloc (.cells #[.bool true] 4)).alloc (.cells #[.bool true] 4)).alloc (.cells #[.slice none 0 0, .slice none 0 0] 25)) (w.heap.size + 1) [.int .u64 se] := (((((Blk.newAt (w.alloc (.cells #[.slice ra R.length rc, .slice aa A.length ac] 25)) [.int .u64 se] 29 (w.heap.size + 1) (by simp)).alloc (.cells #[.int .u32 xf, .string xg, .string xb] 28)).alloc (.cells #[.bool true] 4)).alloc (.cells #[.bool true] 4)).alloc (.cells #[.slice none 0 0, .slice none 0 0] 25))
  have cx0 := x0.at 0 rfl
  have y0 : Blk ((((((w.alloc (.cells #[.slice ra R.length rc, .slice aa A.length ac] 25)).alloc (.cells #[.int .u64 se] 29)).alloc (.cells #[.int .u32 xf, .string xg, .string xb] 28)).alloc (.cells #[.bool true] 4)).alloc (.cells #[.bool true] 4)).alloc (.cells #[.slice none 0 0, .slice none 0 0] 25)) (w.heap.size + 1 + 1) [.int .u32 xf, .string xg, .string xb] := ((((Blk.newAt ((w.alloc (.cells #[.slice ra R.length rc, .slice aa A.length ac] 25)).alloc (.cells #[.int .u64 se] 29)) [.int .u32 xf, .string xg, .string xb] 28 (w.heap.size + 1 + 1) (by simp)).alloc (.cells #[.bool true] 4)).alloc (.cells #[.bool true] 4)).alloc (.cells #[.slice none 0 0, .slice none 0 0] 25))
  have cy0 := y0.at 0 rfl
  have cy1 := y0.at 1 rfl
  have cy2 := y0.at 2 rfl
  have z0 : Blk ((((((w.alloc (.cells #[.slice ra R.length rc, .slice aa A.length ac] 25)).alloc (.cells #[.int .u64 se] 29)).alloc (.cells #[.int .u32 xf, .string xg, .string xb] 28)).alloc (.cells #[.bool true] 4)).alloc (.cells #[.bool true] 4)).alloc (.cells #[.slice none 0 0, .slice none 0 0] 25)) (w.heap.size + 1 + 1 + 1) [.bool true] := (((Blk.newAt (((w.alloc (.cells #[.slice ra R.length rc, .slice aa A.length ac] 25)).alloc (.cells #[.int .u64 se] 29)).alloc (.cells #[.int .u32 xf, .string xg, .string xb] 28)) [.bool true] 4 (w.heap.size + 1 + 1 + 1) (by simp)).alloc (.cells #[.bool true] 4)).alloc (.cells #[.slice none 0 0, .slice none 0 0] 25))
  have cz0 := z0.at 0 rfl
  have u0 : Blk ((((((w.alloc (.cells #[.slice ra R.length rc, .slice aa A.length ac] 25)).alloc (.cells #[.int .u64 se] 29)).alloc (.cells #[.int .u32 xf, .string xg, .string xb] 28)).alloc (.cells #[.bool true] 4)).alloc (.cells #[.bool true] 4)).alloc (.cells #[.slice none 0 0, .slice none 0 0] 25)) (w.heap.size + 1 + 1 + 1 + 1) [.bool true] := ((Blk.newAt ((((w.alloc (.cells #[.slice ra R.length rc, .slice aa A.length ac] 25)).alloc (.cells #[.int .u64 se] 29)).alloc (.cells #[.int .u32 xf, .string xg, .string xb] 28)).alloc (.cells #[.bool true] 4)) [.bool true] 4 (w.heap.size + 1 + 1 + 1 + 1) (by simp)).alloc (.cells #[.slice none 0 0, .slice none 0 0] 25))
  have cu0 := u0.at 0 rfl
  have v0 : Blk ((((((w.alloc (.cells #[.slice ra R.length rc, .slice aa A.length ac] 25)).alloc (.cells #[.int .u64 se] 29)).alloc (.cells #[.int .u32 xf, .string xg, .string xb] 28)).alloc (.cells #[.bool true] 4)).alloc (.cells #[.bool true] 4)).alloc (.cells #[.slice none 0 0, .slice none 0 0] 25)) (w.heap.size + 1 + 1 + 1 + 1 + 1) [.slice none 0 0, .slice none 0 0] := (Blk.newAt (((((w.alloc (.cells #[.slice ra R.length rc, .slice aa A.length ac] 25)).alloc (.cells #[.int .u64 se] 29)).alloc (.cells #[.int .u32 xf, .string xg, .string xb] 28)).alloc (.cells #[.bool true] 4)).alloc (.cells #[.bool true] 4)) [.slice none 0 0, .slice none 0 0] 25 (w.heap.size + 1 + 1 + 1 + 1 + 1) (by simp))
  have cv0 := v0.at 0 rfl
  have cv1 := v0.at 1 rfl
  have hz0 : w.heap.size + 6 ≤ ((((((w.alloc (.cells #[.slice ra R.length rc, .slice aa A.length ac] 25)).alloc (.cells #[.int .u64 se] 29)).alloc (.cells #[.int .u32 xf, .string xg, .string xb] 28)).alloc (.cells #[.bool true] 4)).alloc (.cells #[.bool true] 4)).alloc (.cells #[.slice none 0 0, .slice none 0 0] 25)).heap.size := by simp
  have hF : ∀ (args : Array Value) (u : World), (callFunc 64 args).run Try.prog u = .ok (.enter 64 args) u := fun _ _ => by kernel_rfl
  have hon := Lib.hid (on_any ((((((w.alloc (.cells #[.slice ra R.length rc, .slice aa A.length ac] 25)).alloc (.cells #[.int .u64 se] 29)).alloc (.cells #[.int .u32 xf, .string xg, .string xb] 28)).alloc (.cells #[.bool true] 4)).alloc (.cells #[.bool true] 4)).alloc (.cells #[.slice none 0 0, .slice none 0 0] 25)) _ _ R A false (xf, xg, xb) 64 #[.pointer (some ⟨w.heap.size + 1 + 1, 0, none⟩), .pointer (some ⟨w.heap.size + 1, 0, none⟩), .pointer (some ⟨w.heap.size + 1 + 1 + 1 + 1, 0, none⟩), .pointer (some ⟨w.heap.size + 1 + 1 + 1, 0, none⟩)] (endD R A se (xf, xg, xb) true true) (hR.pure hB0) (hA.pure hB0) hLR hLA hF (fun hTab hok hXid w1 tb rv1 av1 hB hpre => absurd hok (by decide)))
  clear hF
  generalize hD : overB (mayB R A false (xf, xg, xb)) (endD R A se (xf, xg, xb) true true) = D at hon ⊢
  clear hD
  go_enter Try.func16, Try.ntmps16
  go_wp2_with (first | (go_at_call 47; (with_reducible refine hon.out.mono ?_); rintro e w1 ⟨rv1, av1, rfl, hR1, hA1, hB1⟩; have v1 := v0.pure hB1; obtain ⟨ga, gc, rfl⟩ := own_len hR1; obtain ⟨ha, hc, rfl⟩ := own_len hA1; have f0 := v1.at 0 rfl; have f1 := v1.at 1 rfl; have f2 := v1.frozen 0; have f3 := v1.frozen 1; have hT1 := hB0.trans (hB1.mono hB0.size)))
  have rr := (v1.set 0 (.slice ga D.1.length gc)).set 1 (.slice ha D.2.1.length hc)
  have k0 := rr.at 0 rfl; have k1 := rr.at 1 rfl
  refine bodyPost_ret (by simp [results, Try.results16, go_sem, k0, k1]; rfl) rfl ?_
  refine ⟨_, _, rfl, ?_, ?_, ?_⟩
  · exact ((hR1.other _ _ (fun k hk e => by have := hR1.ge hk; rw [e] at this; simp at this; omega)).other _ _ (fun k hk e => by have := hR1.ge hk; rw [e] at this; simp at this; omega)).rebase (fun k hk => by have := hR1.ge hk; simp at this; omega)
  · exact ((hA1.other _ _ (fun k hk e => by have := hA1.ge hk; rw [e] at this; simp at this; omega)).other _ _ (fun k hk e => by have := hA1.ge hk; rw [e] at this; simp at this; omega)).rebase (fun k hk => by have := hA1.ge hk; simp at this; omega)
  · exact ((Upd.of_below hT1).trans (((Upd.set (S := fun k => w.heap.size + 5 = k) (p := ⟨w.heap.size + 1 + 1 + 1 + 1 + 1, 0, none⟩) rfl (.slice ga D.1.length gc)).trans (Upd.set (S := fun k => w.heap.size + 5 = k) (p := ⟨w.heap.size + 1 + 1 + 1 + 1 + 1, 1, none⟩) rfl (.slice ha D.2.1.length hc)) (fun _ h _ => h)).mono (T := fun k => w.heap.size ≤ k) (fun k h _ => by omega)) (fun _ h _ => h)).below (Nat.le_refl _) (fun k h => h)

set_option maxRecDepth 100000 in
set_option maxHeartbeats 1600000 in
theorem end_z (w : World) (rv av : Value) (R : List Brn) (A : List Asc) (se : Int) (x : Xid) (ja : Bool) (rb : Bool) (hse : (se != 0) = false) (hR : Slc brEnc 7 w rv R) (hA : Slc ascEnc 5 w av A) (hLR : R.length ≤ 1000000) (hLA : A.length ≤ 1000000) :
    Calls Try.prog 16 #[.agg #[rv, av], .int .u64 se, .agg #[.int .u32 x.1, .string x.2.1, .string x.2.2], .bool ja, .bool rb] w (TabPost w (overB (mayB R A false x) (endD R A se x ja rb))) := by
  have hmf : ∀ (fn : Fn) (first cap : Array Value) (w : World), (Instr.makeFunc fn first cap).run Try.prog w = .ok (.func fn first cap) w := fun _ _ _ _ => rfl
  obtain ⟨ra, rc, rfl, hm1⟩ := hR.len
  obtain ⟨aa, ac, rfl, hm2⟩ := hA.len
  obtain ⟨xf, xg, xb⟩ := x
  have hB0 : Below w.heap.size w ((((((w.alloc (.cells #[.slice ra R.length rc, .slice aa A.length ac] 25)).alloc (.cells #[.int .u64 se] 29)).alloc (.cells #[.int .u32 xf, .string xg, .string xb] 28)).alloc (.cells #[.bool ja] 4)).alloc (.cells #[.bool rb] 4)).alloc (.cells #[.slice none 0 0, .slice none 0 0] 25)) := (((((((Below.refl _ _).alloc (Nat.le_refl _) _).alloc (by simp) _).alloc (by simp; omega) _).alloc (by simp; omega) _).alloc (by simp; omega) _).alloc (by simp; omega) _)
  have t0 : Blk ((((((w.alloc (.cells #[.slice ra R.length rc, .slice aa A.length ac] 25)).alloc (.cells #[.int .u64 se] 29)).alloc (.cells #[.int .u32 xf, .string xg, .string xb] 28)).alloc (.cells #[.bool ja] 4)).alloc (.cells #[.bool rb] 4)).alloc (.cells #[.slice none 0 0, .slice none 0 0] 25)) (w.heap.size) [.slice ra R.length rc, .slice aa A.length ac] := ((((((Blk.newAt w [.slice ra R.length rc, .slice aa A.length ac] 25 (w.heap.size) (by simp)).alloc (.cells #[.int .u64 se] 29)).alloc (.cells #[.int .u32 xf, .string xg, .string xb] 28)).alloc (.cells #[.bool ja] 4)).alloc (.cells #[.bool rb] 4)).alloc (.cells #[.slice none 0 0, .slice none 0 0] 25))
  have ct0 := t0.at 0 rfl
  have ct1 := t0.at 1 rfl
  have x0 : Blk ((((((w.alloc (.cells #[.slice ra R.length rc, .slice aa A.length ac] 25)).alloc (.cells #[.int .u64 se] 29)).alloc (.cells #[.int .u32 xf, .string xg, .string xb] 28)).alloc (.cells #[.bool ja] 4)).alloc (.cells #[.bool rb] 4)).alloc (.cells #[.slice none 0 0, .slice none 0 0] 25)) (w.heap.size + 1) [.int .u64 se] := (((((Blk.newAt (w.alloc (.cells #[.slice ra R.length rc, .slice aa A.length ac] 25)) [.int .u64 se] 29 (w.heap.size + 1) (by simp)).alloc (.cells #[.int .u32 xf, .string xg, .string xb] 28)).alloc (.cells #[.bool ja] 4)).alloc (.cells #[.bool rb] 4)).alloc (.cells #[.slice none 0 0, .slice none 0 0] 25))
  have cx0 := x0.at 0 rfl
  have y0 : Blk ((((((w.alloc (.cells #[.slice ra R.length rc, .slice aa A.length ac] 25)).alloc (.cells #[.int .u64 se] 29)).alloc (.cells #[.int .u32 xf, .string xg, .string xb] 28)).alloc (.cells #[.bool ja] 4)).alloc (.cells #[.bool rb] 4)).alloc (.cells #[.slice none 0 0, .slice none 0 0] 25)) (w.heap.size + 1 + 1) [.int .u32 xf, .string xg, .string xb] := ((((Blk.newAt ((w.alloc (.cells #[.slice ra R.length rc, .slice aa A.length ac] 25)).alloc (.cells #[.int .u64 se] 29)) [.int .u32 xf, .string xg, .string xb] 28 (w.heap.size + 1 + 1) (by simp)).alloc (.cells #[.bool ja] 4)).alloc (.cells #[.bool rb] 4)).alloc (.cells #[.slice none 0 0, .slice none 0 0] 25))
  have cy0 := y0.at 0 rfl
  have cy1 := y0.at 1 rfl
  have cy2 := y0.at 2 rfl
  have z0 : Blk ((((((w.alloc (.cells #[.slice ra R.length rc, .slice aa A.length ac] 25)).alloc (.cells #[.int .u64 se] 29)).alloc (.cells #[.int .u32 xf, .string xg, .string xb] 28)).alloc (.cells #[.bool ja] 4)).alloc (.cells #[.bool rb] 4)).alloc (.cells #[.slice none 0 0, .slice none 0 0] 25)) (w.heap.size + 1 + 1 + 1) [.bool ja] := (((Blk.newAt (((w.alloc (.cells #[.slice ra R.length rc, .slice aa A.length ac] 25)).alloc (.cells #[.int .u64 se] 29)).alloc (.cells #[.int .u32 xf, .string xg, .string xb] 28)) [.bool ja] 4 (w.heap.size + 1 + 1 + 1) (by simp)).alloc (.cells #[.bool rb] 4)).alloc (.cells #[.slice none 0 0, .slice none 0 0] 25))
  have cz0 := z0.at 0 rfl
  have u0 : Blk ((((((w.alloc (.cells #[.slice ra R.length rc, .slice aa A.length ac] 25)).alloc (.cells #[.int .u64 se] 29)).alloc (.cells #[.int .u32 xf, .string xg, .string xb] 28)).alloc (.cells #[.bool ja] 4)).alloc (.cells #[.bool rb] 4)).alloc (.cells #[.slice none 0 0, .slice none 0 0] 25)) (w.heap.size + 1 + 1 + 1 + 1) [.bool rb] := ((Blk.newAt ((((w.alloc (.cells #[.slice ra R.length rc, .slice aa A.length ac] 25)).alloc (.cells #[.int .u64 se] 29)).alloc (.cells #[.int .u32 xf, .string xg, .string xb] 28)).alloc (.cells #[.bool ja] 4)) [.bool rb] 4 (w.heap.size + 1 + 1 + 1 + 1) (by simp)).alloc (.cells #[.slice none 0 0, .slice none 0 0] 25))
  have cu0 := u0.at 0 rfl
  have v0 : Blk ((((((w.alloc (.cells #[.slice ra R.length rc, .slice aa A.length ac] 25)).alloc (.cells #[.int .u64 se] 29)).alloc (.cells #[.int .u32 xf, .string xg, .string xb] 28)).alloc (.cells #[.bool ja] 4)).alloc (.cells #[.bool rb] 4)).alloc (.cells #[.slice none 0 0, .slice none 0 0] 25)) (w.heap.size + 1 + 1 + 1 + 1 + 1) [.slice none 0 0, .slice none 0 0] := (Blk.newAt (((((w.alloc (.cells #[.slice ra R.length rc, .slice aa A.length ac] 25)).alloc (.cells #[.int .u64 se] 29)).alloc (.cells #[.int .u32 xf, .string xg, .string xb] 28)).alloc (.cells #[.bool ja] 4)).alloc (.cells #[.bool rb] 4)) [.slice none 0 0, .slice none 0 0] 25 (w.heap.size + 1 + 1 + 1 + 1 + 1) (by simp))
  have cv0 := v0.at 0 rfl
  have cv1 := v0.at 1 rfl
  have hz0 : w.heap.size + 6 ≤ ((((((w.alloc (.cells #[.slice ra R.length rc, .slice aa A.length ac] 25)).alloc (.cells #[.int .u64 se] 29)).alloc (.cells #[.int .u32 xf, .string xg, .string xb] 28)).alloc (.cells #[.bool ja] 4)).alloc (.cells #[.bool rb] 4)).alloc (.cells #[.slice none 0 0, .slice none 0 0] 25)).heap.size := by simp
  have hF : ∀ (args : Array Value) (u : World), (callFunc 64 args).run Try.prog u = .ok (.enter 64 args) u := fun _ _ => by kernel_rfl
  have hon := Lib.hid (on_any ((((((w.alloc (.cells #[.slice ra R.length rc, .slice aa A.length ac] 25)).alloc (.cells #[.int .u64 se] 29)).alloc (.cells #[.int .u32 xf, .string xg, .string xb] 28)).alloc (.cells #[.bool ja] 4)).alloc (.cells #[.bool rb] 4)).alloc (.cells #[.slice none 0 0, .slice none 0 0] 25)) _ _ R A false (xf, xg, xb) 64 #[.pointer (some ⟨w.heap.size + 1 + 1, 0, none⟩), .pointer (some ⟨w.heap.size + 1, 0, none⟩), .pointer (some ⟨w.heap.size + 1 + 1 + 1 + 1, 0, none⟩), .pointer (some ⟨w.heap.size + 1 + 1 + 1, 0, none⟩)] (endD R A se (xf, xg, xb) ja rb) (hR.pure hB0) (hA.pure hB0) hLR hLA hF (fun hTab hok hXid w1 tb rv1 av1 hB hpre => absurd hok (by decide)))
  clear hF
  generalize hD : overB (mayB R A false (xf, xg, xb)) (endD R A se (xf, xg, xb) ja rb) = D at hon ⊢
  clear hD
  go_enter Try.func16, Try.ntmps16
  go_wp2_with (first | (go_at_call 47; (with_reducible refine hon.out.mono ?_); rintro e w1 ⟨rv1, av1, rfl, hR1, hA1, hB1⟩; have v1 := v0.pure hB1; obtain ⟨ga, gc, rfl⟩ := own_len hR1; obtain ⟨ha, hc, rfl⟩ := own_len hA1; have f0 := v1.at 0 rfl; have f1 := v1.at 1 rfl; have f2 := v1.frozen 0; have f3 := v1.frozen 1; have hT1 := hB0.trans (hB1.mono hB0.size)))
  have rr := (v1.set 0 (.slice ga D.1.length gc)).set 1 (.slice ha D.2.1.length hc)
  have k0 := rr.at 0 rfl; have k1 := rr.at 1 rfl
  refine bodyPost_ret (by simp [results, Try.results16, go_sem, k0, k1]; rfl) rfl ?_
  refine ⟨_, _, rfl, ?_, ?_, ?_⟩
  · exact ((hR1.other _ _ (fun k hk e => by have := hR1.ge hk; rw [e] at this; simp at this; omega)).other _ _ (fun k hk e => by have := hR1.ge hk; rw [e] at this; simp at this; omega)).rebase (fun k hk => by have := hR1.ge hk; simp at this; omega)
  · exact ((hA1.other _ _ (fun k hk e => by have := hA1.ge hk; rw [e] at this; simp at this; omega)).other _ _ (fun k hk e => by have := hA1.ge hk; rw [e] at this; simp at this; omega)).rebase (fun k hk => by have := hA1.ge hk; simp at this; omega)
  · exact ((Upd.of_below hT1).trans (((Upd.set (S := fun k => w.heap.size + 5 = k) (p := ⟨w.heap.size + 1 + 1 + 1 + 1 + 1, 0, none⟩) rfl (.slice ga D.1.length gc)).trans (Upd.set (S := fun k => w.heap.size + 5 = k) (p := ⟨w.heap.size + 1 + 1 + 1 + 1 + 1, 1, none⟩) rfl (.slice ha D.2.1.length hc)) (fun _ h _ => h)).mono (T := fun k => w.heap.size ≤ k) (fun k h _ => by omega)) (fun _ h _ => h)).below (Nat.le_refl _) (fun k h => h)

theorem end_fn (w : World) (rv av : Value) (R : List Brn) (A : List Asc) (se : Int) (x : Xid) (ja rb : Bool) (hR : Slc brEnc 7 w rv R) (hA : Slc ascEnc 5 w av A) (hLR : R.length ≤ 1000000) (hLA : A.length ≤ 1000000) :
    Calls Try.prog 16 #[.agg #[rv, av], .int .u64 se, .agg #[.int .u32 x.1, .string x.2.1, .string x.2.2], .bool ja, .bool rb] w (TabPost w (overB (mayB R A (okS se ja rb) x) (endD R A se x ja rb))) := by
  unfold okS
  by_cases h : se = 0
  · have e : (decide (se ≠ 0) && !(ja && rb)) = false := by simp [h]
    rw [e]; exact end_z w rv av R A se x ja rb (by simp [h]) hR hA hLR hLA
  · have e : decide (se ≠ 0) = true := decide_eq_true h
    have hn : (se != 0) = true := bne_iff_ne.2 h
    rw [e, Bool.true_and]
    cases ja <;> cases rb
    · exact end_ff w rv av R A se x hn hR hA hLR hLA
    · exact end_ft w rv av R A se x hn hR hA hLR hLA
    · exact end_tf w rv av R A se x hn hR hA hLR hLA
    · exact end_tt w rv av R A se x hn hR hA hLR hLA

set_option maxRecDepth 100000 in
set_option maxHeartbeats 1600000 in
theorem restore_t (w : World) (rv av : Value) (R : List Brn) (A : List Asc) (x : Xid) (st : Int) (h1 : (2 : Int) ≤ st) (h2 : st ≤ 4) (h3 : decide ((2 : Int) ≤ st) = true) (h4 : decide (st ≤ 4) = true) (hR : Slc brEnc 7 w rv R) (hA : Slc ascEnc 5 w av A) (hLR : R.length ≤ 1000000) (hLA : A.length ≤ 1000000) :
    Calls Try.prog 39 #[.agg #[rv, av], .agg #[.int .u32 x.1, .string x.2.1, .string x.2.2], .int .u8 st] w (TabPost2 w (overB (mayB R A true x) (restoreD R A x st))) := by
  have hmf : ∀ (fn : Fn) (first cap : Array Value) (w : World), (Instr.makeFunc fn first cap).run Try.prog w = .ok (.func fn first cap) w := fun _ _ _ _ => rfl
  obtain ⟨ra, rc, rfl, hm1⟩ := hR.len
  obtain ⟨aa, ac, rfl, hm2⟩ := hA.len
  obtain ⟨xf, xg, xb⟩ := x
  have hB0 : Below w.heap.size w ((((w.alloc (.cells #[.slice ra R.length rc, .slice aa A.length ac] 25)).alloc (.cells #[.int .u32 xf, .string xg, .string xb] 28)).alloc (.cells #[.int .u8 st] 42)).alloc (.cells #[.slice none 0 0, .slice none 0 0] 25)) := (((((Below.refl _ _).alloc (Nat.le_refl _) _).alloc (by simp) _).alloc (by simp; omega) _).alloc (by simp; omega) _)
  have t0 : Blk ((((w.alloc (.cells #[.slice ra R.length rc, .slice aa A.length ac] 25)).alloc (.cells #[.int .u32 xf, .string xg, .string xb] 28)).alloc (.cells #[.int .u8 st] 42)).alloc (.cells #[.slice none 0 0, .slice none 0 0] 25)) (w.heap.size) [.slice ra R.length rc, .slice aa A.length ac] := ((((Blk.newAt w [.slice ra R.length rc, .slice aa A.length ac] 25 (w.heap.size) (by simp)).alloc (.cells #[.int .u32 xf, .string xg, .string xb] 28)).alloc (.cells #[.int .u8 st] 42)).alloc (.cells #[.slice none 0 0, .slice none 0 0] 25))
  have ct0 := t0.at 0 rfl
  have ct1 := t0.at 1 rfl
  have x0 : Blk ((((w.alloc (.cells #[.slice ra R.length rc, .slice aa A.length ac] 25)).alloc (.cells #[.int .u32 xf, .string xg, .string xb] 28)).alloc (.cells #[.int .u8 st] 42)).alloc (.cells #[.slice none 0 0, .slice none 0 0] 25)) (w.heap.size + 1) [.int .u32 xf, .string xg, .string xb] := (((Blk.newAt (w.alloc (.cells #[.slice ra R.length rc, .slice aa A.length ac] 25)) [.int .u32 xf, .string xg, .string xb] 28 (w.heap.size + 1) (by simp)).alloc (.cells #[.int .u8 st] 42)).alloc (.cells #[.slice none 0 0, .slice none 0 0] 25))
  have cx0 := x0.at 0 rfl
  have cx1 := x0.at 1 rfl
  have cx2 := x0.at 2 rfl
  have y0 : Blk ((((w.alloc (.cells #[.slice ra R.length rc, .slice aa A.length ac] 25)).alloc (.cells #[.int .u32 xf, .string xg, .string xb] 28)).alloc (.cells #[.int .u8 st] 42)).alloc (.cells #[.slice none 0 0, .slice none 0 0] 25)) (w.heap.size + 1 + 1) [.int .u8 st] := ((Blk.newAt ((w.alloc (.cells #[.slice ra R.length rc, .slice aa A.length ac] 25)).alloc (.cells #[.int .u32 xf, .string xg, .string xb] 28)) [.int .u8 st] 42 (w.heap.size + 1 + 1) (by simp)).alloc (.cells #[.slice none 0 0, .slice none 0 0] 25))
  have cy0 := y0.at 0 rfl
  have z0 : Blk ((((w.alloc (.cells #[.slice ra R.length rc, .slice aa A.length ac] 25)).alloc (.cells #[.int .u32 xf, .string xg, .string xb] 28)).alloc (.cells #[.int .u8 st] 42)).alloc (.cells #[.slice none 0 0, .slice none 0 0] 25)) (w.heap.size + 1 + 1 + 1) [.slice none 0 0, .slice none 0 0] := (Blk.newAt (((w.alloc (.cells #[.slice ra R.length rc, .slice aa A.length ac] 25)).alloc (.cells #[.int .u32 xf, .string xg, .string xb] 28)).alloc (.cells #[.int .u8 st] 42)) [.slice none 0 0, .slice none 0 0] 25 (w.heap.size + 1 + 1 + 1) (by simp))
  have cz0 := z0.at 0 rfl
  have cz1 := z0.at 1 rfl
  have hz0 : w.heap.size + 4 ≤ ((((w.alloc (.cells #[.slice ra R.length rc, .slice aa A.length ac] 25)).alloc (.cells #[.int .u32 xf, .string xg, .string xb] 28)).alloc (.cells #[.int .u8 st] 42)).alloc (.cells #[.slice none 0 0, .slice none 0 0] 25)).heap.size := by simp
  have hF : ∀ (args : Array Value) (u : World), (callFunc 92 args).run Try.prog u = .ok (.enter 92 args) u := fun _ _ => by kernel_rfl
  have hon := Lib.hid (on_any ((((w.alloc (.cells #[.slice ra R.length rc, .slice aa A.length ac] 25)).alloc (.cells #[.int .u32 xf, .string xg, .string xb] 28)).alloc (.cells #[.int .u8 st] 42)).alloc (.cells #[.slice none 0 0, .slice none 0 0] 25)) _ _ R A true (xf, xg, xb) 92 #[.pointer (some ⟨w.heap.size + 1, 0, none⟩), .pointer (some ⟨w.heap.size + 1 + 1, 0, none⟩)] (restoreD R A (xf, xg, xb) st) (hR.pure hB0) (hA.pure hB0) hLR hLA hF (fun hTab hok hXid w1 tb rv1 av1 hB hpre => restore_do _ w1 tb rv1 av1 R A (w.heap.size + 1) (xf, xg, xb) (x0.below hB (by simp)) (by simp) (w.heap.size + 1 + 1) st (y0.below hB (by simp)) (by simp) hpre hTab.1.2 hLR hLA))
  clear hF
  generalize hD : overB (mayB R A true (xf, xg, xb)) (restoreD R A (xf, xg, xb) st) = D at hon ⊢
  clear hD
  go_enter Try.func39, Try.ntmps39
  go_wp2_with (first | (go_at_call 47; (with_reducible refine hon.out.mono ?_); rintro e w1 ⟨rv1, av1, rfl, hR1, hA1, hB1⟩; have z1 := z0.pure hB1; obtain ⟨ga, gc, rfl⟩ := own_len hR1; obtain ⟨ha, hc, rfl⟩ := own_len hA1; have f0 := z1.at 0 rfl; have f1 := z1.at 1 rfl; have f2 := z1.frozen 0; have f3 := z1.frozen 1; have hT1 := hB0.trans (hB1.mono hB0.size); have hAl := (Below.refl w1.heap.size w1).alloc (Nat.le_refl _) (.cells #[.slice ga D.1.length gc, .slice ha D.2.1.length hc] 25); have r2 := z1.pure hAl; have b2 := Blk.new w1 [.slice ga D.1.length gc, .slice ha D.2.1.length hc] 25; have g0 := b2.at 0 rfl; have g1 := b2.at 1 rfl; have g2 := r2.at 0 rfl; have g3 := r2.at 1 rfl; have g4 := r2.frozen 0; have g5 := r2.frozen 1; have hT2 := hT1.trans (hAl.mono hT1.size); have hR2 := hR1.pure hAl; have hA2 := hA1.pure hAl))
  have rr := (r2.set 0 (.slice ga D.1.length gc)).set 1 (.slice ha D.2.1.length hc)
  have k0 := rr.at 0 rfl; have k1 := rr.at 1 rfl
  refine bodyPost_ret (by simp [results, Try.results39, go_sem, k0, k1]; rfl) rfl ?_
  refine ⟨_, _, rfl, ?_, ?_, ?_⟩
  · exact ((hR2.other _ _ (fun k hk e => by have := hR2.ge hk; rw [e] at this; simp at this; omega)).other _ _ (fun k hk e => by have := hR2.ge hk; rw [e] at this; simp at this; omega)).rebase (fun k hk => by have := hR2.ge hk; simp at this; omega)
  · exact ((hA2.other _ _ (fun k hk e => by have := hA2.ge hk; rw [e] at this; simp at this; omega)).other _ _ (fun k hk e => by have := hA2.ge hk; rw [e] at this; simp at this; omega)).rebase (fun k hk => by have := hA2.ge hk; simp at this; omega)
  · exact ((Upd.of_below hT2).trans (((Upd.set (S := fun k => w.heap.size + 3 = k) (p := ⟨w.heap.size + 1 + 1 + 1, 0, none⟩) rfl (.slice ga D.1.length gc)).trans (Upd.set (S := fun k => w.heap.size + 3 = k) (p := ⟨w.heap.size + 1 + 1 + 1, 1, none⟩) rfl (.slice ha D.2.1.length hc)) (fun _ h _ => h)).mono (T := fun k => w.heap.size ≤ k) (fun k h _ => by omega)) (fun _ h _ => h)).below (Nat.le_refl _) (fun k h => h)

set_option maxRecDepth 100000 in
set_option maxHeartbeats 1600000 in
theorem restore_f1 (w : World) (rv av : Value) (R : List Brn) (A : List Asc) (x : Xid) (st : Int) (h3 : decide ((2 : Int) ≤ st) = false) (hR : Slc brEnc 7 w rv R) (hA : Slc ascEnc 5 w av A) (hLR : R.length ≤ 1000000) (hLA : A.length ≤ 1000000) :
    Calls Try.prog 39 #[.agg #[rv, av], .agg #[.int .u32 x.1, .string x.2.1, .string x.2.2], .int .u8 st] w (TabPost2 w (overB (mayB R A false x) (restoreD R A x st))) := by
  have hmf : ∀ (fn : Fn) (first cap : Array Value) (w : World), (Instr.makeFunc fn first cap).run Try.prog w = .ok (.func fn first cap) w := fun _ _ _ _ => rfl
  obtain ⟨ra, rc, rfl, hm1⟩ := hR.len
  obtain ⟨aa, ac, rfl, hm2⟩ := hA.len
  obtain ⟨xf, xg, xb⟩ := x
  have hB0 : Below w.heap.size w ((((w.alloc (.cells #[.slice ra R.length rc, .slice aa A.length ac] 25)).alloc (.cells #[.int .u32 xf, .string xg, .string xb] 28)).alloc (.cells #[.int .u8 st] 42)).alloc (.cells #[.slice none 0 0, .slice none 0 0] 25)) := (((((Below.refl _ _).alloc (Nat.le_refl _) _).alloc (by simp) _).alloc (by simp; omega) _).alloc (by simp; omega) _)
  have t0 : Blk ((((w.alloc (.cells #[.slice ra R.length rc, .slice aa A.length ac] 25)).alloc (.cells #[.int .u32 xf, .string xg, .string xb] 28)).alloc (.cells #[.int .u8 st] 42)).alloc (.cells #[.slice none 0 0, .slice none 0 0] 25)) (w.heap.size) [.slice ra R.length rc, .slice aa A.length ac] := ((((Blk.newAt w [.slice ra R.length rc, .slice aa A.length ac] 25 (w.heap.size) (by simp)).alloc (.cells #[.int .u32 xf, .string xg, .string xb] 28)).alloc (.cells #[.int .u8 st] 42)).alloc (.cells #[.slice none 0 0, .slice none 0 0] 25))
  have ct0 := t0.at 0 rfl
  have ct1 := t0.at 1 rfl
  have x0 : Blk ((((w.alloc (.cells #[.slice ra R.length rc, .slice aa A.length ac] 25)).alloc (.cells #[.int .u32 xf, .string xg, .string xb] 28)).alloc (.cells #[.int .u8 st] 42)).alloc (.cells #[.slice none 0 0, .slice none 0 0] 25)) (w.heap.size + 1) [.int .u32 xf, .string xg, .string xb] := (((Blk.newAt (w.alloc (.cells #[.slice ra R.length rc, .slice aa A.length ac] 25)) [.int .u32 xf, .string xg, .string xb] 28 (w.heap.size + 1) (by simp)).alloc (.cells #[.int .u8 st] 42)).alloc (.cells #[.slice none 0 0, .slice none 0 0] 25))
  have cx0 := x0.at 0 rfl
  have cx1 := x0.at 1 rfl
  have cx2 := x0.at 2 rfl
  have y0 : Blk ((((w.alloc (.cells #[.slice ra R.length rc, .slice aa A.length ac] 25)).alloc (.cells #[.int .u32 xf, .string xg, .string xb] 28)).alloc (.cells #[.int .u8 st] 42)).alloc (.cells #[.slice none 0 0, .slice none 0 0] 25)) (w.heap.size + 1 + 1) [.int .u8 st] := ((Blk.newAt ((w.alloc (.cells #[.slice ra R.length rc, .slice aa A.length ac] 25)).alloc (.cells #[.int .u32 xf, .string xg, .string xb] 28)) [.int .u8 st] 42 (w.heap.size + 1 + 1) (by simp)).alloc (.cells #[.slice none 0 0, .slice none 0 0] 25))
  have cy0 := y0.at 0 rfl
  have z0 : Blk ((((w.alloc (.cells #[.slice ra R.length rc, .slice aa A.length ac] 25)).alloc (.cells #[.int .u32 xf, .string xg, .string xb] 28)).alloc (.cells #[.int .u8 st] 42)).alloc (.cells #[.slice none 0 0, .slice none 0 0] 25)) (w.heap.size + 1 + 1 + 1) [.slice none 0 0, .slice none 0 0] := (Blk.newAt (((w.alloc (.cells #[.slice ra R.length rc, .slice aa A.length ac] 25)).alloc (.cells #[.int .u32 xf, .string xg, .string xb] 28)).alloc (.cells #[.int .u8 st] 42)) [.slice none 0 0, .slice none 0 0] 25 (w.heap.size + 1 + 1 + 1) (by simp))
  have cz0 := z0.at 0 rfl
  have cz1 := z0.at 1 rfl
  have hz0 : w.heap.size + 4 ≤ ((((w.alloc (.cells #[.slice ra R.length rc, .slice aa A.length ac] 25)).alloc (.cells #[.int .u32 xf, .string xg, .string xb] 28)).alloc (.cells #[.int .u8 st] 42)).alloc (.cells #[.slice none 0 0, .slice none 0 0] 25)).heap.size := by simp
  have hF : ∀ (args : Array Value) (u : World), (callFunc 92 args).run Try.prog u = .ok (.enter 92 args) u := fun _ _ => by kernel_rfl
  have hon := Lib.hid (on_any ((((w.alloc (.cells #[.slice ra R.length rc, .slice aa A.length ac] 25)).alloc (.cells #[.int .u32 xf, .string xg, .string xb] 28)).alloc (.cells #[.int .u8 st] 42)).alloc (.cells #[.slice none 0 0, .slice none 0 0] 25)) _ _ R A false (xf, xg, xb) 92 #[.pointer (some ⟨w.heap.size + 1, 0, none⟩), .pointer (some ⟨w.heap.size + 1 + 1, 0, none⟩)] (restoreD R A (xf, xg, xb) st) (hR.pure hB0) (hA.pure hB0) hLR hLA hF (fun hTab hok hXid w1 tb rv1 av1 hB hpre => absurd hok (by decide)))
  clear hF
  generalize hD : overB (mayB R A false (xf, xg, xb)) (restoreD R A (xf, xg, xb) st) = D at hon ⊢
  clear hD
  go_enter Try.func39, Try.ntmps39
  go_wp2_with (first | (go_at_call 47; (with_reducible refine hon.out.mono ?_); rintro e w1 ⟨rv1, av1, rfl, hR1, hA1, hB1⟩; have z1 := z0.pure hB1; obtain ⟨ga, gc, rfl⟩ := own_len hR1; obtain ⟨ha, hc, rfl⟩ := own_len hA1; have f0 := z1.at 0 rfl; have f1 := z1.at 1 rfl; have f2 := z1.frozen 0; have f3 := z1.frozen 1; have hT1 := hB0.trans (hB1.mono hB0.size); have hAl := (Below.refl w1.heap.size w1).alloc (Nat.le_refl _) (.cells #[.slice ga D.1.length gc, .slice ha D.2.1.length hc] 25); have r2 := z1.pure hAl; have b2 := Blk.new w1 [.slice ga D.1.length gc, .slice ha D.2.1.length hc] 25; have g0 := b2.at 0 rfl; have g1 := b2.at 1 rfl; have g2 := r2.at 0 rfl; have g3 := r2.at 1 rfl; have g4 := r2.frozen 0; have g5 := r2.frozen 1; have hT2 := hT1.trans (hAl.mono hT1.size); have hR2 := hR1.pure hAl; have hA2 := hA1.pure hAl))
  have rr := (r2.set 0 (.slice ga D.1.length gc)).set 1 (.slice ha D.2.1.length hc)
  have k0 := rr.at 0 rfl; have k1 := rr.at 1 rfl
  refine bodyPost_ret (by simp [results, Try.results39, go_sem, k0, k1]; rfl) rfl ?_
  refine ⟨_, _, rfl, ?_, ?_, ?_⟩
  · exact ((hR2.other _ _ (fun k hk e => by have := hR2.ge hk; rw [e] at this; simp at this; omega)).other _ _ (fun k hk e => by have := hR2.ge hk; rw [e] at this; simp at this; omega)).rebase (fun k hk => by have := hR2.ge hk; simp at this; omega)
  · exact ((hA2.other _ _ (fun k hk e => by have := hA2.ge hk; rw [e] at this; simp at this; omega)).other _ _ (fun k hk e => by have := hA2.ge hk; rw [e] at this; simp at this; omega)).rebase (fun k hk => by have := hA2.ge hk; simp at this; omega)
  · exact ((Upd.of_below hT2).trans (((Upd.set (S := fun k => w.heap.size + 3 = k) (p := ⟨w.heap.size + 1 + 1 + 1, 0, none⟩) rfl (.slice ga D.1.length gc)).trans (Upd.set (S := fun k => w.heap.size + 3 = k) (p := ⟨w.heap.size + 1 + 1 + 1, 1, none⟩) rfl (.slice ha D.2.1.length hc)) (fun _ h _ => h)).mono (T := fun k => w.heap.size ≤ k) (fun k h _ => by omega)) (fun _ h _ => h)).below (Nat.le_refl _) (fun k h => h)

set_option maxRecDepth 100000 in
set_option maxHeartbeats 1600000 in
theorem restore_f2 (w : World) (rv av : Value) (R : List Brn) (A : List Asc) (x : Xid) (st : Int) (h3 : decide ((2 : Int) ≤ st) = true) (h4 : decide (st ≤ 4) = false) (hR : Slc brEnc 7 w rv R) (hA : Slc ascEnc 5 w av A) (hLR : R.length ≤ 1000000) (hLA : A.length ≤ 1000000) :
    Calls Try.prog 39 #[.agg #[rv, av], .agg #[.int .u32 x.1, .string x.2.1, .string x.2.2], .int .u8 st] w (TabPost2 w (overB (mayB R A false x) (restoreD R A x st))) := by
  have hmf : ∀ (fn : Fn) (first cap : Array Value) (w : World), (Instr.makeFunc fn first cap).run Try.prog w = .ok (.func fn first cap) w := fun _ _ _ _ => rfl
  obtain ⟨ra, rc, rfl, hm1⟩ := hR.len
  obtain ⟨aa, ac, rfl, hm2⟩ := hA.len
  obtain ⟨xf, xg, xb⟩ := x
  have hB0 : Below w.heap.size w ((((w.alloc (.cells #[.slice ra R.length rc, .slice aa A.length ac] 25)).alloc (.cells #[.int .u32 xf, .string xg, .string xb] 28)).alloc (.cells #[.int .u8 st] 42)).alloc (.cells #[.slice none 0 0, .slice none 0 0] 25)) := (((((Below.refl _ _).alloc (Nat.le_refl _) _).alloc (by simp) _).alloc (by simp; omega) _).alloc (by simp; omega) _)
  have t0 : Blk ((((w.alloc (.cells #[.slice ra R.length rc, .slice aa A.length ac] 25)).alloc (.cells #[.int .u32 xf, .string xg, .string xb] 28)).alloc (.cells #[.int .u8 st] 42)).alloc (.cells #[.slice none 0 0, .slice none 0 0] 25)) (w.heap.size) [.slice ra R.length rc, .slice aa A.length ac] := ((((Blk.newAt w [.slice ra R.length rc, .slice aa A.length ac] 25 (w.heap.size) (by simp)).alloc (.cells #[.int .u32 xf, .string xg, .string xb] 28)).alloc (.cells #[.int .u8 st] 42)).alloc (.cells #[.slice none 0 0, .slice none 0 0] 25))
  have ct0 := t0.at 0 rfl
  have ct1 := t0.at 1 rfl
  have x0 : Blk ((((w.alloc (.cells #[.slice ra R.length rc, .slice aa A.length ac] 25)).alloc (.cells #[.int .u32 xf, .string xg, .string xb] 28)).alloc (.cells #[.int .u8 st] 42)).alloc (.cells #[.slice none 0 0, .slice none 0 0] 25)) (w.heap.size + 1) [.int .u32 xf, .string xg, .string xb] := (((Blk.newAt (w.alloc (.cells #[.slice ra R.length rc, .slice aa A.length ac] 25)) [.int .u32 xf, .string xg, .string xb] 28 (w.heap.size + 1) (by simp)).alloc (.cells #[.int .u8 st] 42)).alloc (.cells #[.slice none 0 0, .slice none 0 0] 25))
  have cx0 := x0.at 0 rfl
  have cx1 := x0.at 1 rfl
  have cx2 := x0.at 2 rfl
  have y0 : Blk ((((w.alloc (.cells #[.slice ra R.length rc, .slice aa A.length ac] 25)).alloc (.cells #[.int .u32 xf, .string xg, .string xb] 28)).alloc (.cells #[.int .u8 st] 42)).alloc (.cells #[.slice none 0 0, .slice none 0 0] 25)) (w.heap.size + 1 + 1) [.int .u8 st] := ((Blk.newAt ((w.alloc (.cells #[.slice ra R.length rc, .slice aa A.length ac] 25)).alloc (.cells #[.int .u32 xf, .string xg, .string xb] 28)) [.int .u8 st] 42 (w.heap.size + 1 + 1) (by simp)).alloc (.cells #[.slice none 0 0, .slice none 0 0] 25))
  have cy0 := y0.at 0 rfl
  have z0 : Blk ((((w.alloc (.cells #[.slice ra R.length rc, .slice aa A.length ac] 25)).alloc (.cells #[.int .u32 xf, .string xg, .string xb] 28)).alloc (.cells #[.int .u8 st] 42)).alloc (.cells #[.slice none 0 0, .slice none 0 0] 25)) (w.heap.size + 1 + 1 + 1) [.slice none 0 0, .slice none 0 0] := (Blk.newAt (((w.alloc (.cells #[.slice ra R.length rc, .slice aa A.length ac] 25)).alloc (.cells #[.int .u32 xf, .string xg, .string xb] 28)).alloc (.cells #[.int .u8 st] 42)) [.slice none 0 0, .slice none 0 0] 25 (w.heap.size + 1 + 1 + 1) (by simp))
  have cz0 := z0.at 0 rfl
  have cz1 := z0.at 1 rfl
  have hz0 : w.heap.size + 4 ≤ ((((w.alloc (.cells #[.slice ra R.length rc, .slice aa A.length ac] 25)).alloc (.cells #[.int .u32 xf, .string xg, .string xb] 28)).alloc (.cells #[.int .u8 st] 42)).alloc (.cells #[.slice none 0 0, .slice none 0 0] 25)).heap.size := by simp
  have hF : ∀ (args : Array Value) (u : World), (callFunc 92 args).run Try.prog u = .ok (.enter 92 args) u := fun _ _ => by kernel_rfl
  have hon := Lib.hid (on_any ((((w.alloc (.cells #[.slice ra R.length rc, .slice aa A.length ac] 25)).alloc (.cells #[.int .u32 xf, .string xg, .string xb] 28)).alloc (.cells #[.int .u8 st] 42)).alloc (.cells #[.slice none 0 0, .slice none 0 0] 25)) _ _ R A false (xf, xg, xb) 92 #[.pointer (some ⟨w.heap.size + 1, 0, none⟩), .pointer (some ⟨w.heap.size + 1 + 1, 0, none⟩)] (restoreD R A (xf, xg, xb) st) (hR.pure hB0) (hA.pure hB0) hLR hLA hF (fun hTab hok hXid w1 tb rv1 av1 hB hpre => absurd hok (by decide)))
  clear hF
  generalize hD : overB (mayB R A false (xf, xg, xb)) (restoreD R A (xf, xg, xb) st) = D at hon ⊢
  clear hD
  go_enter Try.func39, Try.ntmps39
  go_wp2_with (first | (go_at_call 47; (with_reducible refine hon.out.mono ?_); rintro e w1 ⟨rv1, av1, rfl, hR1, hA1, hB1⟩; have z1 := z0.pure hB1; obtain ⟨ga, gc, rfl⟩ := own_len hR1; obtain ⟨ha, hc, rfl⟩ := own_len hA1; have f0 := z1.at 0 rfl; have f1 := z1.at 1 rfl; have f2 := z1.frozen 0; have f3 := z1.frozen 1; have hT1 := hB0.trans (hB1.mono hB0.size); have hAl := (Below.refl w1.heap.size w1).alloc (Nat.le_refl _) (.cells #[.slice ga D.1.length gc, .slice ha D.2.1.length hc] 25); have r2 := z1.pure hAl; have b2 := Blk.new w1 [.slice ga D.1.length gc, .slice ha D.2.1.length hc] 25; have g0 := b2.at 0 rfl; have g1 := b2.at 1 rfl; have g2 := r2.at 0 rfl; have g3 := r2.at 1 rfl; have g4 := r2.frozen 0; have g5 := r2.frozen 1; have hT2 := hT1.trans (hAl.mono hT1.size); have hR2 := hR1.pure hAl; have hA2 := hA1.pure hAl))
  have rr := (r2.set 0 (.slice ga D.1.length gc)).set 1 (.slice ha D.2.1.length hc)
  have k0 := rr.at 0 rfl; have k1 := rr.at 1 rfl
  refine bodyPost_ret (by simp [results, Try.results39, go_sem, k0, k1]; rfl) rfl ?_
  refine ⟨_, _, rfl, ?_, ?_, ?_⟩
  · exact ((hR2.other _ _ (fun k hk e => by have := hR2.ge hk; rw [e] at this; simp at this; omega)).other _ _ (fun k hk e => by have := hR2.ge hk; rw [e] at this; simp at this; omega)).rebase (fun k hk => by have := hR2.ge hk; simp at this; omega)
  · exact ((hA2.other _ _ (fun k hk e => by have := hA2.ge hk; rw [e] at this; simp at this; omega)).other _ _ (fun k hk e => by have := hA2.ge hk; rw [e] at this; simp at this; omega)).rebase (fun k hk => by have := hA2.ge hk; simp at this; omega)
  · exact ((Upd.of_below hT2).trans (((Upd.set (S := fun k => w.heap.size + 3 = k) (p := ⟨w.heap.size + 1 + 1 + 1, 0, none⟩) rfl (.slice ga D.1.length gc)).trans (Upd.set (S := fun k => w.heap.size + 3 = k) (p := ⟨w.heap.size + 1 + 1 + 1, 1, none⟩) rfl (.slice ha D.2.1.length hc)) (fun _ h _ => h)).mono (T := fun k => w.heap.size ≤ k) (fun k h _ => by omega)) (fun _ h _ => h)).below (Nat.le_refl _) (fun k h => h)

theorem restore_fn (w : World) (rv av : Value) (R : List Brn) (A : List Asc) (x : Xid) (st : Int) (hR : Slc brEnc 7 w rv R) (hA : Slc ascEnc 5 w av A) (hLR : R.length ≤ 1000000) (hLA : A.length ≤ 1000000) :
    Calls Try.prog 39 #[.agg #[rv, av], .agg #[.int .u32 x.1, .string x.2.1, .string x.2.2], .int .u8 st] w (TabPost2 w (overB (mayB R A (decide (2 ≤ st ∧ st ≤ 4)) x) (restoreD R A x st))) := by
  by_cases h1 : (2 : Int) ≤ st
  · by_cases h2 : st ≤ 4
    · rw [decide_eq_true ⟨h1, h2⟩]
      exact restore_t w rv av R A x st h1 h2 (decide_eq_true h1) (decide_eq_true h2) hR hA hLR hLA
    · rw [decide_eq_false (fun h => h2 h.2)]
      exact restore_f2 w rv av R A x st (decide_eq_true h1) (decide_eq_false h2) hR hA hLR hLA
  · rw [decide_eq_false (fun h => h1 h.1)]
    exact restore_f1 w rv av R A x st (decide_eq_false h1) hR hA hLR hLA
end Go.Proofs.Ytcelpincmpjhkaa
