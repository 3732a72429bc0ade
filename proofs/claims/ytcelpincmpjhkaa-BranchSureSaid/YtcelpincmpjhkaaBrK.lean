/- Package branch: 'on'. Conditions: the table reads; what the handed closure does is given. Written by gen_brK.py. -/
import Derived.Test.YtcelpincmpjhkaaBrJ
import Derived.Test.YtcelpincmpjhkaaBrClone
import Derived.Test.YtcelpincmpjhkaaAssocClone
import Derived.Test.YtcelpincmpjhkaaRegH
namespace Go.Proofs.Ytcelpincmpjhkaa
open Go.RowKit
set_option linter.unusedVariables false
theorem Blk.newAt (w : World) (cs : List Value) (T : TypeId) (k : Nat) (h : w.heap.size = k) : Blk (w.alloc (.cells cs.toArray T)) k cs := h ▸ Blk.new w cs T

set_option maxRecDepth 100000 in
set_option maxHeartbeats 3200000 in
theorem on_no (w : World) (rv av : Value) (R : List Brn) (A : List Asc) (ok : Bool) (x : Xid) (F : Nat) (caps : Array Value) (hR : Slc brEnc 7 w rv R) (hA : Slc ascEnc 5 w av A) (hLR : R.length ≤ 1000000) (hLA : A.length ≤ 1000000) (hm : mayB R A ok x ≠ 0) :
    Calls Try.prog 47 #[.agg #[rv, av], .bool ok, .agg #[.int .u32 x.1, .string x.2.1, .string x.2.2], .func (.func F) #[] caps] w fun e w' => e = .returned (.tuple #[.agg #[.slice none 0 0, .slice none 0 0], .int .u8 0, .int .i64 (mayB R A ok x)]) ∧ Below w.heap.size w w' := by
  have hmf : ∀ (fn : Fn) (first cap : Array Value) (w : World), (Instr.makeFunc fn first cap).run Try.prog w = .ok (.func fn first cap) w := fun _ _ _ _ => rfl
  obtain ⟨ra, rc, rfl, hm1⟩ := hR.len
  obtain ⟨aa, ac, rfl, hm2⟩ := hA.len
  obtain ⟨xf, xg, xb⟩ := x
  simp only at *
  have hB5 : Below w.heap.size w (((((w.alloc (.cells #[.slice ra R.length rc, .slice aa A.length ac] 25)).alloc (.cells #[.int .u32 xf, .string xg, .string xb] 28)).alloc (.cells #[.slice none 0 0, .slice none 0 0] 25)).alloc (.cells #[.int .u8 0] 35)).alloc (.cells #[.int .i64 0] 36)) := ((((((Below.refl _ _).alloc (Nat.le_refl _) _).alloc (by simp) _).alloc (by simp; omega) _).alloc (by simp; omega) _).alloc (by simp; omega) _)
  have t5 : Blk (((((w.alloc (.cells #[.slice ra R.length rc, .slice aa A.length ac] 25)).alloc (.cells #[.int .u32 xf, .string xg, .string xb] 28)).alloc (.cells #[.slice none 0 0, .slice none 0 0] 25)).alloc (.cells #[.int .u8 0] 35)).alloc (.cells #[.int .i64 0] 36)) (w.heap.size) [.slice ra R.length rc, .slice aa A.length ac] := (((((Blk.newAt w [.slice ra R.length rc, .slice aa A.length ac] 25 (w.heap.size) (by simp)).alloc (.cells #[.int .u32 xf, .string xg, .string xb] 28)).alloc (.cells #[.slice none 0 0, .slice none 0 0] 25)).alloc (.cells #[.int .u8 0] 35)).alloc (.cells #[.int .i64 0] 36))
  have z5 : Blk (((((w.alloc (.cells #[.slice ra R.length rc, .slice aa A.length ac] 25)).alloc (.cells #[.int .u32 xf, .string xg, .string xb] 28)).alloc (.cells #[.slice none 0 0, .slice none 0 0] 25)).alloc (.cells #[.int .u8 0] 35)).alloc (.cells #[.int .i64 0] 36)) (w.heap.size + 1) [.int .u32 xf, .string xg, .string xb] := ((((Blk.newAt (w.alloc (.cells #[.slice ra R.length rc, .slice aa A.length ac] 25)) [.int .u32 xf, .string xg, .string xb] 28 (w.heap.size + 1) (by simp)).alloc (.cells #[.slice none 0 0, .slice none 0 0] 25)).alloc (.cells #[.int .u8 0] 35)).alloc (.cells #[.int .i64 0] 36))
  have p5 : Blk (((((w.alloc (.cells #[.slice ra R.length rc, .slice aa A.length ac] 25)).alloc (.cells #[.int .u32 xf, .string xg, .string xb] 28)).alloc (.cells #[.slice none 0 0, .slice none 0 0] 25)).alloc (.cells #[.int .u8 0] 35)).alloc (.cells #[.int .i64 0] 36)) (w.heap.size + 1 + 1) [.slice none 0 0, .slice none 0 0] := (((Blk.newAt ((w.alloc (.cells #[.slice ra R.length rc, .slice aa A.length ac] 25)).alloc (.cells #[.int .u32 xf, .string xg, .string xb] 28)) [.slice none 0 0, .slice none 0 0] 25 (w.heap.size + 1 + 1) (by simp)).alloc (.cells #[.int .u8 0] 35)).alloc (.cells #[.int .i64 0] 36))
  have q5 : Blk (((((w.alloc (.cells #[.slice ra R.length rc, .slice aa A.length ac] 25)).alloc (.cells #[.int .u32 xf, .string xg, .string xb] 28)).alloc (.cells #[.slice none 0 0, .slice none 0 0] 25)).alloc (.cells #[.int .u8 0] 35)).alloc (.cells #[.int .i64 0] 36)) (w.heap.size + 1 + 1 + 1) [.int .u8 0] := ((Blk.newAt (((w.alloc (.cells #[.slice ra R.length rc, .slice aa A.length ac] 25)).alloc (.cells #[.int .u32 xf, .string xg, .string xb] 28)).alloc (.cells #[.slice none 0 0, .slice none 0 0] 25)) [.int .u8 0] 35 (w.heap.size + 1 + 1 + 1) (by simp)).alloc (.cells #[.int .i64 0] 36))
  have r5 : Blk (((((w.alloc (.cells #[.slice ra R.length rc, .slice aa A.length ac] 25)).alloc (.cells #[.int .u32 xf, .string xg, .string xb] 28)).alloc (.cells #[.slice none 0 0, .slice none 0 0] 25)).alloc (.cells #[.int .u8 0] 35)).alloc (.cells #[.int .i64 0] 36)) (w.heap.size + 1 + 1 + 1 + 1) [.int .i64 0] := (Blk.newAt ((((w.alloc (.cells #[.slice ra R.length rc, .slice aa A.length ac] 25)).alloc (.cells #[.int .u32 xf, .string xg, .string xb] 28)).alloc (.cells #[.slice none 0 0, .slice none 0 0] 25)).alloc (.cells #[.int .u8 0] 35)) [.int .i64 0] 36 (w.heap.size + 1 + 1 + 1 + 1) (by simp))
  have hz5 : w.heap.size + 5 ≤ (((((w.alloc (.cells #[.slice ra R.length rc, .slice aa A.length ac] 25)).alloc (.cells #[.int .u32 xf, .string xg, .string xb] 28)).alloc (.cells #[.slice none 0 0, .slice none 0 0] 25)).alloc (.cells #[.int .u8 0] 35)).alloc (.cells #[.int .i64 0] 36)).heap.size := by simp
  have y0 := t5.at 0 rfl; have y1 := t5.at 1 rfl; have x0 := z5.at 0 rfl; have x1 := z5.at 1 rfl; have x2 := z5.at 2 rfl

  rcases tabE_cases R A with ⟨h1, h2⟩ | ⟨h1, h2⟩
  rotate_left 1
  · have htab := Lib.hid h2
    have hmay : Hid (mayB R A ok (xf, xg, xb) = 190) := Lib.hid (by unfold mayB; rw [h2]; rfl)
    clear h1 h2 hm
    go_enter_defers Try.func47, Try.ntmps47
    go_wp2_with (first | (go_at_call 21; refine (tcheck_any _ _ _ R A (hR.pure hB5) (hA.pure hB5) hLR hLA).mono ?_; rw [htab.out]; rintro e w1 ⟨rfl, hB1⟩; have t1 := t5.pure hB1; have z1 := z5.pure hB1; have p1 := p5.pure hB1; have q1 := q5.pure hB1; have r1 := r5.pure hB1; have hT1 := hB5.trans (hB1.mono hB5.size); have y2 := t1.at 0 rfl; have y3 := t1.at 1 rfl; have x3 := z1.at 0 rfl; have x4 := z1.at 1 rfl; have x5 := z1.at 2 rfl) | (go_at_call 50; with_reducible refine (must_no _ _).mono ?_; rintro e _ ⟨rfl, rfl⟩))
    refine leaves_cons (f := 98) (args := #[.pointer (some ⟨w.heap.size + 1 + 1, 0, none⟩), .pointer (some ⟨w.heap.size + 1 + 1 + 1, 0, none⟩), .pointer (some ⟨w.heap.size + 1 + 1 + 1 + 1, 0, none⟩)]) (by simp) (by simp [go_sem]) ?_
    refine (on1_panicking _ (w.heap.size + 1 + 1) 190 _ _ _ _ p1 q1 r1).mono ?_
    rintro e u' w9 ⟨rfl, rfl, p9, q9, r9, hU9⟩
    have g0 := p9.at 0 rfl; have g1 := p9.at 1 rfl; have g2 := q9.at 0 rfl; have g3 := r9.at 0 rfl
    simp only [Leaves, settle, List.dropWhile_nil]
    refine ⟨_, (by simp [results, Try.results47, go_sem, g0, g1, g2, g3]; rfl), by rw [hmay.out], (Upd.below ((Upd.of_below hT1).trans (hU9.mono (T := fun k => w.heap.size ≤ k) (fun k h _ => by unfold OnS at h; omega)) (fun k h _ => h)) (Nat.le_refl _) (fun k h => h))⟩
  · have htab := Lib.hid h2
    cases ok
    · have hmay : Hid (mayB R A false (xf, xg, xb) = 2) := Lib.hid (by unfold mayB; rw [h2]; rfl)
      clear h1 h2 hm
      go_enter_defers Try.func47, Try.ntmps47
      go_wp2_with (first | (go_at_call 21; refine (tcheck_any _ _ _ R A (hR.pure hB5) (hA.pure hB5) hLR hLA).mono ?_; rw [htab.out]; rintro e w1 ⟨rfl, hB1⟩; have t1 := t5.pure hB1; have z1 := z5.pure hB1; have p1 := p5.pure hB1; have q1 := q5.pure hB1; have r1 := r5.pure hB1; have hT1 := hB5.trans (hB1.mono hB5.size); have y2 := t1.at 0 rfl; have y3 := t1.at 1 rfl; have x3 := z1.at 0 rfl; have x4 := z1.at 1 rfl; have x5 := z1.at 2 rfl) | (go_at_call 50; with_reducible refine (must_ok _ _).mono ?_; rintro e _ ⟨rfl, rfl⟩) | (go_at_call 50; with_reducible refine (must_no _ _).mono ?_; rintro e _ ⟨rfl, rfl⟩))
      refine leaves_cons (f := 98) (args := #[.pointer (some ⟨w.heap.size + 1 + 1, 0, none⟩), .pointer (some ⟨w.heap.size + 1 + 1 + 1, 0, none⟩), .pointer (some ⟨w.heap.size + 1 + 1 + 1 + 1, 0, none⟩)]) (by simp) (by simp [go_sem]) ?_
      refine (on1_panicking _ (w.heap.size + 1 + 1) 2 _ _ _ _ p1 q1 r1).mono ?_
      rintro e u' w9 ⟨rfl, rfl, p9, q9, r9, hU9⟩
      have g0 := p9.at 0 rfl; have g1 := p9.at 1 rfl; have g2 := q9.at 0 rfl; have g3 := r9.at 0 rfl
      simp only [Leaves, settle, List.dropWhile_nil]
      refine ⟨_, (by simp [results, Try.results47, go_sem, g0, g1, g2, g3]; rfl), by rw [hmay.out], (Upd.below ((Upd.of_below hT1).trans (hU9.mono (T := fun k => w.heap.size ≤ k) (fun k h _ => by unfold OnS at h; omega)) (fun k h _ => h)) (Nat.le_refl _) (fun k h => h))⟩
    · have hx : ¬ XidOk (xf, xg, xb) := fun h => hm (by unfold mayB; rw [h2]; simp [h])
      have hmay : Hid (mayB R A true (xf, xg, xb) = 40) := Lib.hid (by unfold mayB; rw [h2]; simp [hx])
      have hxv := Lib.hid (show (if XidOk (xf, xg, xb) then (0 : Int) else 40) = 40 from if_neg hx)
      clear h1 h2 hm hx
      go_enter_defers Try.func47, Try.ntmps47
      go_wp2_with (first | (go_at_call 21; refine (tcheck_any _ _ _ R A (hR.pure hB5) (hA.pure hB5) hLR hLA).mono ?_; rw [htab.out]; rintro e w1 ⟨rfl, hB1⟩; have t1 := t5.pure hB1; have z1 := z5.pure hB1; have p1 := p5.pure hB1; have q1 := q5.pure hB1; have r1 := r5.pure hB1; have hT1 := hB5.trans (hB1.mono hB5.size); have y2 := t1.at 0 rfl; have y3 := t1.at 1 rfl; have x3 := z1.at 0 rfl; have x4 := z1.at 1 rfl; have x5 := z1.at 2 rfl) | (go_at_call 50; with_reducible refine (must_ok _ _).mono ?_; rintro e _ ⟨rfl, rfl⟩) | (go_at_call 50; with_reducible refine (must_no _ _).mono ?_; rintro e _ ⟨rfl, rfl⟩) | (go_at_call 99; refine (xid_chk _ (xf, xg, xb) _ hxv.out).mono ?_; rintro e w2 ⟨rfl, hB2⟩; have t2 := t1.pure hB2; have p2 := p1.pure hB2; have q2 := q1.pure hB2; have r2 := r1.pure hB2; have hT2 := hT1.trans (hB2.mono hT1.size); have y4 := t2.at 0 rfl; have y5 := t2.at 1 rfl))
      refine leaves_cons (f := 98) (args := #[.pointer (some ⟨w.heap.size + 1 + 1, 0, none⟩), .pointer (some ⟨w.heap.size + 1 + 1 + 1, 0, none⟩), .pointer (some ⟨w.heap.size + 1 + 1 + 1 + 1, 0, none⟩)]) (by simp) (by simp [go_sem]) ?_
      refine (on1_panicking _ (w.heap.size + 1 + 1) 40 _ _ _ _ p2 q2 r2).mono ?_
      rintro e u' w9 ⟨rfl, rfl, p9, q9, r9, hU9⟩
      have g0 := p9.at 0 rfl; have g1 := p9.at 1 rfl; have g2 := q9.at 0 rfl; have g3 := r9.at 0 rfl
      simp only [Leaves, settle, List.dropWhile_nil]
      refine ⟨_, (by simp [results, Try.results47, go_sem, g0, g1, g2, g3]; rfl), by rw [hmay.out], (Upd.below ((Upd.of_below hT2).trans (hU9.mono (T := fun k => w.heap.size ≤ k) (fun k h _ => by unfold OnS at h; omega)) (fun k h _ => h)) (Nat.le_refl _) (fun k h => h))⟩
end Go.Proofs.Ytcelpincmpjhkaa
