/- Package branch: what a call over on answers. Conditions: the table reads; at most a million of rows and associations. Written by gen_brP.py. (Texts joined; the heads of the others stand below.) -/
import Derived.Test.YtcelpincmpjhkaaBrI
import Derived.Defers
import Derived.Recover
import Derived.Test.YtcelpincmpjhkaaHB
import Derived.Test.YtcelpincmpjhkaaGC
import Derived.Test.YtcelpincmpjhkaaGB

/- Package branch: the deferred closure of 'on'. Conditions: its three variables are there. -/
namespace Go.Proofs.Ytcelpincmpjhkaa
set_option linter.unusedSimpArgs false
set_option linter.unusedVariables false
open Go.RowKit
abbrev pent (e : Int) (r : Bool) : PanicEntry := { v := .iface 36 (.int .i64 e), recovered := r }
theorem errno_is (w : World) (v : Value) : (Instr.typeAssert (.iface 36 v) 20 36 false).run Try.prog w = .ok v w := by kernel_rfl
abbrev OnS (b : Nat) : Nat → Prop := fun k => k = b ∨ k = b + 1 ∨ k = b + 1 + 1

set_option maxRecDepth 100000 in
theorem on1_idle (w : World) (b : Nat) :
    CallsD Try.prog 98 #[.pointer (some ⟨b, 0, none⟩), .pointer (some ⟨b + 1, 0, none⟩), .pointer (some ⟨b + 1 + 1, 0, none⟩)] .returning w fun e u' w' => e = .returned (.tuple #[]) ∧ u' = .returning ∧ w' = w := by
  refine callsD_of_wpS Try.func98 rfl fun c₀ cs hu => ?_
  show Code.wpS Try.prog _ _ { tmps := #[.pointer (some ⟨b, 0, none⟩), .pointer (some ⟨b + 1, 0, none⟩), .pointer (some ⟨b + 1 + 1, 0, none⟩), undef, undef, undef, undef, undef, undef, undef], defers := [] } _ _
  apply wpS_seq
  apply wpS_region
  simp [wpOpsS, go_sem, recoverD, hu, Exit.thenS]
  refine wpS_of_wp ?_
  go_wp2
  cases c₀
  simp_all [bodyPostS, results, Try.results98]

set_option maxRecDepth 100000 in
theorem on1_panicking (w : World) (b : Nat) (e : Int) (v1 v2 : Value) (v3 v4 : Value) (h1 : Blk w b [v1, v2]) (h2 : Blk w (b + 1) [v3]) (h3 : Blk w (b + 1 + 1) [v4]) :
    CallsD Try.prog 98 #[.pointer (some ⟨b, 0, none⟩), .pointer (some ⟨b + 1, 0, none⟩), .pointer (some ⟨b + 1 + 1, 0, none⟩)] (.panicking [pent e false]) w fun r u' w' => r = .returned (.tuple #[]) ∧ u' = .panicking [pent e true] ∧ Blk w' b [.slice none 0 0, .slice none 0 0] ∧ Blk w' (b + 1) [.int .u8 0] ∧ Blk w' (b + 1 + 1) [.int .i64 e] ∧ Upd (OnS b) w w' := by
  have c0 := h1.at 0 rfl
  have c1 := h1.at 1 rfl
  have c2 := h2.at 0 rfl
  have c3 := h3.at 0 rfl
  have f0 := h1.frozen 0
  have f1 := h1.frozen 1
  have f2 := h2.frozen 0
  have f3 := h3.frozen 0
  refine callsD_of_wpS Try.func98 rfl fun c₀ cs hu => ?_
  show Code.wpS Try.prog _ _ { tmps := #[.pointer (some ⟨b, 0, none⟩), .pointer (some ⟨b + 1, 0, none⟩), .pointer (some ⟨b + 1 + 1, 0, none⟩), undef, undef, undef, undef, undef, undef, undef], defers := [] } _ _
  apply wpS_seq
  apply wpS_region
  simp [wpOpsS, go_sem, recoverD, hu, Exit.thenS]
  refine wpS_of_wp ?_
  have hta := errno_is
  go_wp2
  go_region
  go_wp2
  have t0 := (((h1.set 0 (.slice none 0 0)).set 1 (.slice none 0 0)).other ⟨b + 1, 0, none⟩ (.int .u8 0) (by simp only; omega)).other ⟨b + 1 + 1, 0, none⟩ (.int .i64 e) (by simp only; omega)
  have t1 := (((h2.other ⟨b, 0, none⟩ (.slice none 0 0) (by simp only; omega)).other ⟨b, 1, none⟩ (.slice none 0 0) (by simp only; omega)).set 0 (.int .u8 0)).other ⟨b + 1 + 1, 0, none⟩ (.int .i64 e) (by simp only; omega)
  have t2 := (((h3.other ⟨b, 0, none⟩ (.slice none 0 0) (by simp only; omega)).other ⟨b, 1, none⟩ (.slice none 0 0) (by simp only; omega)).other ⟨b + 1, 0, none⟩ (.int .u8 0) (by simp only; omega)).set 0 (.int .i64 e)
  refine ⟨rfl, _, rfl, _, results_none rfl _ _ _, rfl, rfl, t0, t1, t2, ?_⟩
  refine Upd.drew ?_
  exact (((Upd.set (S := OnS b) (p := ⟨b, 0, none⟩) (Or.inl rfl) _).trans (Upd.set (S := OnS b) (p := ⟨b, 1, none⟩) (Or.inl rfl) _) (fun _ h _ => h)).trans (Upd.set (S := OnS b) (p := ⟨b + 1, 0, none⟩) (Or.inr (Or.inl rfl)) _) (fun _ h _ => h)).trans (Upd.set (S := OnS b) (p := ⟨b + 1 + 1, 0, none⟩) (Or.inr (Or.inr rfl)) _) (fun _ h _ => h)
end Go.Proofs.Ytcelpincmpjhkaa

/- Package branch: 'on'. Conditions: the table reads; what the handed closure does is given. Written by gen_brK.py. -/
namespace Go.Proofs.Ytcelpincmpjhkaa
set_option linter.unusedSimpArgs false
set_option linter.unusedVariables false
open Go.RowKit
theorem Blk.newAt (w : World) (cs : List Value) (T : TypeId) (k : Nat) (h : w.heap.size = k) : Blk (w.alloc (.cells cs.toArray T)) k cs := h ▸ Blk.new w cs T

set_option maxRecDepth 100000 in
set_option maxHeartbeats 3200000 in
theorem on_no (w : World) (rv av : Value) (R : List Brn) (A : List Asc) (ok : Bool) (x : Xid) (F : Nat) (caps : Array Value) (hR : Slc brEnc 7 w rv R) (hA : Slc ascEnc 5 w av A) (hLR : R.length ≤ 1000000) (hLA : A.length ≤ 1000000) (hm : mayB R A ok x ≠ 0) :
    Calls Try.prog 47 #[.agg #[rv, av], .bool ok, .agg #[.int .u32 x.1, .string x.2.1, .string x.2.2], .func (.func F) #[] caps] w fun e w' => e = .returned (.tuple #[.agg #[.slice none 0 0, .slice none 0 0], .int .u8 0, .int .i64 (mayB R A ok x)]) ∧ Below w.heap.size w w' := by
  have hmf : ∀ (fn : Fn) (first cap : Array Value) (w : World), (Instr.makeFunc fn first cap).run Try.prog w = .ok (.func fn first cap) w := fun _ _ _ _ => rfl
  obtain ⟨ra, rc, rfl, hm1⟩ := hR.len
  obtain ⟨aa, ac, rfl, hm2⟩ := hA.len
  obtain ⟨xf, xg, xb⟩ := x
  simp only at *
  have hB5 : Below w.heap.size w (((((w.alloc (.cells #[.slice ra R.length rc, .slice aa A.length ac] 25)).alloc (.cells #[.int .u32 xf, .string xg, .string xb] 28)).alloc (.cells #[.slice none 0 0, .slice none 0 0] 25)).alloc (.cells #[.int .u8 0] 35)).alloc (.cells #[.int .i64 0] 36)) := ((((((Below.refl _ _).alloc (Nat.le_refl _) _).alloc (by simp) _).alloc (by simp; omega) _).alloc (by simp; omega) _).alloc (by simp; omega) _)
  have t5 : Blk (((((w.alloc (.cells #[.slice ra R.length rc, .slice aa A.length ac] 25)).alloc (.cells #[.int .u32 xf, .string xg, .string xb] 28)).alloc (.cells #[.slice none 0 0, .slice none 0 0] 25)).alloc (.cells #[.int .u8 0] 35)).alloc (.cells #[.int .i64 0] 36)) (w.heap.size) [.slice ra R.length rc, .slice aa A.length ac] := (((((Blk.newAt w [.slice ra R.length rc, .slice aa A.length ac] 25 (w.heap.size) (by simp)).alloc (.cells #[.int .u32 xf, .string xg, .string xb] 28)).alloc (.cells #[.slice none 0 0, .slice none 0 0] 25)).alloc (.cells #[.int .u8 0] 35)).alloc (.cells #[.int .i64 0] 36))
  have z5 : Blk (((((w.alloc (.cells #[.slice ra R.length rc, .slice aa A.length ac] 25)).alloc (.cells #[.int .u32 xf, .string xg, .string xb] 28)).alloc (.cells #[.slice none 0 0, .slice none 0 0] 25)).alloc (.cells #[.int .u8 0] 35)).alloc (.cells #[.int .i64 0] 36)) (w.heap.size + 1) [.int .u32 xf, .string xg, .string xb] := ((((Blk.newAt (w.alloc (.cells #[.slice ra R.length rc, .slice aa A.length ac] 25)) [.int .u32 xf, .string xg, .string xb] 28 (w.heap.size + 1) (by simp)).alloc (.cells #[.slice none 0 0, .slice none 0 0] 25)).alloc (.cells #[.int .u8 0] 35)).alloc (.cells #[.int .i64 0] 36))
  have p5 : Blk (((((w.alloc (.cells #[.slice ra R.length rc, .slice aa A.length ac] 25)).alloc (.cells #[.int .u32 xf, .string xg, .string xb] 28)).alloc (.cells #[.slice none 0 0, .slice none 0 0] 25)).alloc (.cells #[.int .u8 0] 35)).alloc (.cells #[.int .i64 0] 36)) (w.heap.size + 1 + 1) [.slice none 0 0, .slice none 0 0] := (((Blk.newAt ((w.alloc (.cells #[.slice ra R.length rc, .slice aa A.length ac] 25)).alloc (.cells #[.int .u32 xf, .string xg, .string xb] 28)) [.slice none 0 0, .slice none 0 0] 25 (w.heap.size + 1 + 1) (by simp)).alloc (.cells #[.int .u8 0] 35)).alloc (.cells #[.int .i64 0] 36))
  have q5 : Blk (((((w.alloc (.cells #[.slice ra R.length rc, .slice aa A.length ac] 25)).alloc (.cells #[.int .u32 xf, .string xg, .string xb] 28)).alloc (.cells #[.slice none 0 0, .slice none 0 0] 25)).alloc (.cells #[.int .u8 0] 35)).alloc (.cells #[.int .i64 0] 36)) (w.heap.size + 1 + 1 + 1) [.int .u8 0] := ((Blk.newAt (((w.alloc (.cells #[.slice ra R.length rc, .slice aa A.length ac] 25)).alloc (.cells #[.int .u32 xf, .string xg, .string xb] 28)).alloc (.cells #[.slice none 0 0, .slice none 0 0] 25)) [.int .u8 0] 35 (w.heap.size + 1 + 1 + 1) (by simp)).alloc (.cells #[.int .i64 0] 36))
  have r5 : Blk (((((w.alloc (.cells #[.slice ra R.length rc, .slice aa A.length ac] 25)).alloc (.cells #[.int .u32 xf, .string xg, .string xb] 28)).alloc (.cells #[.slice none 0 0, .slice none 0 0] 25)).alloc (.cells #[.int .u8 0] 35)).alloc (.cells #[.int .i64 0] 36)) (w.heap.size + 1 + 1 + 1 + 1) [.int .i64 0] := (Blk.newAt ((((w.alloc (.cells #[.slice ra R.length rc, .slice aa A.length ac] 25)).alloc (.cells #[.int .u32 xf, .string xg, .string xb] 28)).alloc (.cells #[.slice none 0 0, .slice none 0 0] 25)).alloc (.cells #[.int .u8 0] 35)) [.int .i64 0] 36 (w.heap.size + 1 + 1 + 1 + 1) (by simp))
  have hz5 : w.heap.size + 5 ≤ (((((w.alloc (.cells #[.slice ra R.length rc, .slice aa A.length ac] 25)).alloc (.cells #[.int .u32 xf, .string xg, .string xb] 28)).alloc (.cells #[.slice none 0 0, .slice none 0 0] 25)).alloc (.cells #[.int .u8 0] 35)).alloc (.cells #[.int .i64 0] 36)).heap.size := by simp
  have y0 := t5.at 0 rfl; have y1 := t5.at 1 rfl; have x0 := z5.at 0 rfl; have x1 := z5.at 1 rfl; have x2 := z5.at 2 rfl

  rcases tabE_cases R A with ⟨h1, h2⟩ | ⟨h1, h2⟩
  rotate_left 1
  · have htab := Lib.hid h2
    have hmay : Hid (mayB R A ok (xf, xg, xb) = 190) := Lib.hid (by unfold mayB; rw [h2]; rfl)
    clear h1 h2 hm
    go_enter_defers Try.func47, Try.ntmps47
    go_wp2_with (first | (go_at_call 21; refine (tcheck_any _ _ _ R A (hR.pure hB5) (hA.pure hB5) hLR hLA).mono ?_; rw [htab.out]; rintro e w1 ⟨rfl, hB1⟩; have t1 := t5.pure hB1; have z1 := z5.pure hB1; have p1 := p5.pure hB1; have q1 := q5.pure hB1; have r1 := r5.pure hB1; have hT1 := hB5.trans (hB1.mono hB5.size); have y2 := t1.at 0 rfl; have y3 := t1.at 1 rfl; have x3 := z1.at 0 rfl; have x4 := z1.at 1 rfl; have x5 := z1.at 2 rfl) | (go_at_call 50; with_reducible refine (must_no _ _).mono ?_; rintro e _ ⟨rfl, rfl⟩))
    refine leaves_cons (f := 98) (args := #[.pointer (some ⟨w.heap.size + 1 + 1, 0, none⟩), .pointer (some ⟨w.heap.size + 1 + 1 + 1, 0, none⟩), .pointer (some ⟨w.heap.size + 1 + 1 + 1 + 1, 0, none⟩)]) (by simp) (by simp [go_sem]) ?_
    refine (on1_panicking _ (w.heap.size + 1 + 1) 190 _ _ _ _ p1 q1 r1).mono ?_
    rintro e u' w9 ⟨rfl, rfl, p9, q9, r9, hU9⟩
    have g0 := p9.at 0 rfl; have g1 := p9.at 1 rfl; have g2 := q9.at 0 rfl; have g3 := r9.at 0 rfl
    simp only [Leaves, settle, List.dropWhile_nil]
    refine ⟨_, (by simp [results, Try.results47, go_sem, g0, g1, g2, g3]; rfl), by rw [hmay.out], (Upd.below ((Upd.of_below hT1).trans (hU9.mono (T := fun k => w.heap.size ≤ k) (fun k h _ => by unfold OnS at h; omega)) (fun k h _ => h)) (Nat.le_refl _) (fun k h => h))⟩
  · have htab := Lib.hid h2
    cases ok
    · have hmay : Hid (mayB R A false (xf, xg, xb) = 2) := Lib.hid (by unfold mayB; rw [h2]; rfl)
      clear h1 h2 hm
      go_enter_defers Try.func47, Try.ntmps47
      go_wp2_with (first | (go_at_call 21; refine (tcheck_any _ _ _ R A (hR.pure hB5) (hA.pure hB5) hLR hLA).mono ?_; rw [htab.out]; rintro e w1 ⟨rfl, hB1⟩; have t1 := t5.pure hB1; have z1 := z5.pure hB1; have p1 := p5.pure hB1; have q1 := q5.pure hB1; have r1 := r5.pure hB1; have hT1 := hB5.trans (hB1.mono hB5.size); have y2 := t1.at 0 rfl; have y3 := t1.at 1 rfl; have x3 := z1.at 0 rfl; have x4 := z1.at 1 rfl; have x5 := z1.at 2 rfl) | (go_at_call 50; with_reducible refine (must_ok _ _).mono ?_; rintro e _ ⟨rfl, rfl⟩) | (go_at_call 50; with_reducible refine (must_no _ _).mono ?_; rintro e _ ⟨rfl, rfl⟩))
      refine leaves_cons (f := 98) (args := #[.pointer (some ⟨w.heap.size + 1 + 1, 0, none⟩), .pointer (some ⟨w.heap.size + 1 + 1 + 1, 0, none⟩), .pointer (some ⟨w.heap.size + 1 + 1 + 1 + 1, 0, none⟩)]) (by simp) (by simp [go_sem]) ?_
      refine (on1_panicking _ (w.heap.size + 1 + 1) 2 _ _ _ _ p1 q1 r1).mono ?_
      rintro e u' w9 ⟨rfl, rfl, p9, q9, r9, hU9⟩
      have g0 := p9.at 0 rfl; have g1 := p9.at 1 rfl; have g2 := q9.at 0 rfl; have g3 := r9.at 0 rfl
      simp only [Leaves, settle, List.dropWhile_nil]
      refine ⟨_, (by simp [results, Try.results47, go_sem, g0, g1, g2, g3]; rfl), by rw [hmay.out], (Upd.below ((Upd.of_below hT1).trans (hU9.mono (T := fun k => w.heap.size ≤ k) (fun k h _ => by unfold OnS at h; omega)) (fun k h _ => h)) (Nat.le_refl _) (fun k h => h))⟩
    · have hx : ¬ XidOk (xf, xg, xb) := fun h => hm (by unfold mayB; rw [h2]; simp [h])
      have hmay : Hid (mayB R A true (xf, xg, xb) = 40) := Lib.hid (by unfold mayB; rw [h2]; simp [hx])
      have hxv := Lib.hid (show (if XidOk (xf, xg, xb) then (0 : Int) else 40) = 40 from if_neg hx)
      clear h1 h2 hm hx
      go_enter_defers Try.func47, Try.ntmps47
      go_wp2_with (first | (go_at_call 21; refine (tcheck_any _ _ _ R A (hR.pure hB5) (hA.pure hB5) hLR hLA).mono ?_; rw [htab.out]; rintro e w1 ⟨rfl, hB1⟩; have t1 := t5.pure hB1; have z1 := z5.pure hB1; have p1 := p5.pure hB1; have q1 := q5.pure hB1; have r1 := r5.pure hB1; have hT1 := hB5.trans (hB1.mono hB5.size); have y2 := t1.at 0 rfl; have y3 := t1.at 1 rfl; have x3 := z1.at 0 rfl; have x4 := z1.at 1 rfl; have x5 := z1.at 2 rfl) | (go_at_call 50; with_reducible refine (must_ok _ _).mono ?_; rintro e _ ⟨rfl, rfl⟩) | (go_at_call 50; with_reducible refine (must_no _ _).mono ?_; rintro e _ ⟨rfl, rfl⟩) | (go_at_call 99; refine (xid_chk _ (xf, xg, xb) _ hxv.out).mono ?_; rintro e w2 ⟨rfl, hB2⟩; have t2 := t1.pure hB2; have p2 := p1.pure hB2; have q2 := q1.pure hB2; have r2 := r1.pure hB2; have hT2 := hT1.trans (hB2.mono hT1.size); have y4 := t2.at 0 rfl; have y5 := t2.at 1 rfl))
      refine leaves_cons (f := 98) (args := #[.pointer (some ⟨w.heap.size + 1 + 1, 0, none⟩), .pointer (some ⟨w.heap.size + 1 + 1 + 1, 0, none⟩), .pointer (some ⟨w.heap.size + 1 + 1 + 1 + 1, 0, none⟩)]) (by simp) (by simp [go_sem]) ?_
      refine (on1_panicking _ (w.heap.size + 1 + 1) 40 _ _ _ _ p2 q2 r2).mono ?_
      rintro e u' w9 ⟨rfl, rfl, p9, q9, r9, hU9⟩
      have g0 := p9.at 0 rfl; have g1 := p9.at 1 rfl; have g2 := q9.at 0 rfl; have g3 := r9.at 0 rfl
      simp only [Leaves, settle, List.dropWhile_nil]
      refine ⟨_, (by simp [results, Try.results47, go_sem, g0, g1, g2, g3]; rfl), by rw [hmay.out], (Upd.below ((Upd.of_below hT2).trans (hU9.mono (T := fun k => w.heap.size ≤ k) (fun k h _ => by unfold OnS at h; omega)) (fun k h _ => h)) (Nat.le_refl _) (fun k h => h))⟩
end Go.Proofs.Ytcelpincmpjhkaa

/- Package branch: 'on' where the closure is called. Conditions: the table is right; what the closure does is given. Written by gen_brL.py. -/
namespace Go.Proofs.Ytcelpincmpjhkaa
set_option linter.unusedSimpArgs false
set_option linter.unusedVariables false
open Go.RowKit

/-- What a closure of 'on' finds. -/
structure DoPre (s : Nat) (w : World) (tb : Nat) (rv av : Value) (R : List Brn) (A : List Asc) : Prop where
  room : s + 5 ≤ w.heap.size
  tab : Blk w tb [rv, av]
  high : s + 5 ≤ tb
  rows : Own (s + 5) 44 7 brEnc w rv R
  ascs : Own (s + 5) 57 5 ascEnc w av A
  rt : rv.ownBlock ≠ some tb
  at_ : av.ownBlock ≠ some tb
  apart : ∀ k, rv.ownBlock = some k → av.ownBlock ≠ some k
/-- What a closure of 'on' leaves. -/
def DoPost (s tb : Nat) (D : Res) (X : Nat → Prop) (Q : World → Prop) (w : World) (e : Ending) (w2 : World) : Prop :=
  (∃ rv av, D.2.2.2 = 0 ∧ e = .returned (.int .u8 D.2.2.1) ∧ Blk w2 tb [rv, av] ∧ Own (s + 5) 44 7 brEnc w2 rv D.1 ∧ Own (s + 5) 57 5 ascEnc w2 av D.2.1 ∧ Upd (fun k => X k ∨ s + 5 ≤ k) w w2 ∧ Q w2) ∨
  ∃ c, c ≠ 0 ∧ D = errR c ∧ e = .panicked [pent c false] ∧ Upd (fun k => X k ∨ s + 5 ≤ k) w w2
theorem own_len2 {α : Type} {enc : α → List Value} {m base : Nat} {e : TypeId} {w : World} {v : Value} {L : List α} (h : Own base e m enc w v L) : ∃ a c, v = .slice a L.length c := own_len h

set_option maxRecDepth 100000 in
set_option maxHeartbeats 6400000 in
theorem on_ok (w : World) (rv av : Value) (R : List Brn) (A : List Asc) (x : Xid) (F : Nat) (caps : Array Value) (D : Res) (X : Nat → Prop) (Q : World → Prop) (hR : Slc brEnc 7 w rv R) (hA : Slc ascEnc 5 w av A) (hLR : R.length ≤ 1000000) (hLA : A.length ≤ 1000000) (hTab : TabOk R A) (hXid : XidOk x)
    (hX : ∀ k, X k → k < w.heap.size) (hQ : ∀ u u', Q u → Upd (fun k => w.heap.size + 2 ≤ k ∧ k < w.heap.size + 5) u u' → Q u')
    (hF : ∀ (args : Array Value) (u : World), (callFunc F args).run Try.prog u = .ok (.enter F args) u)
    (hdo : ∀ w1 tb rv1 av1, Below w.heap.size w w1 → DoPre w.heap.size w1 tb rv1 av1 R A → Calls Try.prog F (#[.pointer (some ⟨tb, 0, none⟩)] ++ caps) w1 (DoPost w.heap.size tb D X Q w1)) :
    Calls Try.prog 47 #[.agg #[rv, av], .bool true, .agg #[.int .u32 x.1, .string x.2.1, .string x.2.2], .func (.func F) #[] caps] w fun e w' => ∃ rv' av', e = .returned (.tuple #[.agg #[rv', av'], .int .u8 D.2.2.1, .int .i64 D.2.2.2]) ∧ Own w.heap.size 44 7 brEnc w' rv' D.1 ∧ Own w.heap.size 57 5 ascEnc w' av' D.2.1 ∧ Upd (fun k => X k ∨ w.heap.size ≤ k) w w' ∧ (D.2.2.2 = 0 → Q w') := by
  have hmf : ∀ (fn : Fn) (first cap : Array Value) (w : World), (Instr.makeFunc fn first cap).run Try.prog w = .ok (.func fn first cap) w := fun _ _ _ _ => rfl
  obtain ⟨ra, rc, rfl, hm1⟩ := hR.len
  obtain ⟨aa, ac, rfl, hm2⟩ := hA.len
  obtain ⟨xf, xg, xb⟩ := x
  simp only at *
  have hB5 : Below w.heap.size w (((((w.alloc (.cells #[.slice ra R.length rc, .slice aa A.length ac] 25)).alloc (.cells #[.int .u32 xf, .string xg, .string xb] 28)).alloc (.cells #[.slice none 0 0, .slice none 0 0] 25)).alloc (.cells #[.int .u8 0] 35)).alloc (.cells #[.int .i64 0] 36)) := ((((((Below.refl _ _).alloc (Nat.le_refl _) _).alloc (by simp) _).alloc (by simp; omega) _).alloc (by simp; omega) _).alloc (by simp; omega) _)
  have t5 : Blk (((((w.alloc (.cells #[.slice ra R.length rc, .slice aa A.length ac] 25)).alloc (.cells #[.int .u32 xf, .string xg, .string xb] 28)).alloc (.cells #[.slice none 0 0, .slice none 0 0] 25)).alloc (.cells #[.int .u8 0] 35)).alloc (.cells #[.int .i64 0] 36)) (w.heap.size) [.slice ra R.length rc, .slice aa A.length ac] := (((((Blk.newAt w [.slice ra R.length rc, .slice aa A.length ac] 25 (w.heap.size) (by simp)).alloc (.cells #[.int .u32 xf, .string xg, .string xb] 28)).alloc (.cells #[.slice none 0 0, .slice none 0 0] 25)).alloc (.cells #[.int .u8 0] 35)).alloc (.cells #[.int .i64 0] 36))
  have z5 : Blk (((((w.alloc (.cells #[.slice ra R.length rc, .slice aa A.length ac] 25)).alloc (.cells #[.int .u32 xf, .string xg, .string xb] 28)).alloc (.cells #[.slice none 0 0, .slice none 0 0] 25)).alloc (.cells #[.int .u8 0] 35)).alloc (.cells #[.int .i64 0] 36)) (w.heap.size + 1) [.int .u32 xf, .string xg, .string xb] := ((((Blk.newAt (w.alloc (.cells #[.slice ra R.length rc, .slice aa A.length ac] 25)) [.int .u32 xf, .string xg, .string xb] 28 (w.heap.size + 1) (by simp)).alloc (.cells #[.slice none 0 0, .slice none 0 0] 25)).alloc (.cells #[.int .u8 0] 35)).alloc (.cells #[.int .i64 0] 36))
  have p5 : Blk (((((w.alloc (.cells #[.slice ra R.length rc, .slice aa A.length ac] 25)).alloc (.cells #[.int .u32 xf, .string xg, .string xb] 28)).alloc (.cells #[.slice none 0 0, .slice none 0 0] 25)).alloc (.cells #[.int .u8 0] 35)).alloc (.cells #[.int .i64 0] 36)) (w.heap.size + 1 + 1) [.slice none 0 0, .slice none 0 0] := (((Blk.newAt ((w.alloc (.cells #[.slice ra R.length rc, .slice aa A.length ac] 25)).alloc (.cells #[.int .u32 xf, .string xg, .string xb] 28)) [.slice none 0 0, .slice none 0 0] 25 (w.heap.size + 1 + 1) (by simp)).alloc (.cells #[.int .u8 0] 35)).alloc (.cells #[.int .i64 0] 36))
  have q5 : Blk (((((w.alloc (.cells #[.slice ra R.length rc, .slice aa A.length ac] 25)).alloc (.cells #[.int .u32 xf, .string xg, .string xb] 28)).alloc (.cells #[.slice none 0 0, .slice none 0 0] 25)).alloc (.cells #[.int .u8 0] 35)).alloc (.cells #[.int .i64 0] 36)) (w.heap.size + 1 + 1 + 1) [.int .u8 0] := ((Blk.newAt (((w.alloc (.cells #[.slice ra R.length rc, .slice aa A.length ac] 25)).alloc (.cells #[.int .u32 xf, .string xg, .string xb] 28)).alloc (.cells #[.slice none 0 0, .slice none 0 0] 25)) [.int .u8 0] 35 (w.heap.size + 1 + 1 + 1) (by simp)).alloc (.cells #[.int .i64 0] 36))
  have r5 : Blk (((((w.alloc (.cells #[.slice ra R.length rc, .slice aa A.length ac] 25)).alloc (.cells #[.int .u32 xf, .string xg, .string xb] 28)).alloc (.cells #[.slice none 0 0, .slice none 0 0] 25)).alloc (.cells #[.int .u8 0] 35)).alloc (.cells #[.int .i64 0] 36)) (w.heap.size + 1 + 1 + 1 + 1) [.int .i64 0] := (Blk.newAt ((((w.alloc (.cells #[.slice ra R.length rc, .slice aa A.length ac] 25)).alloc (.cells #[.int .u32 xf, .string xg, .string xb] 28)).alloc (.cells #[.slice none 0 0, .slice none 0 0] 25)).alloc (.cells #[.int .u8 0] 35)) [.int .i64 0] 36 (w.heap.size + 1 + 1 + 1 + 1) (by simp))
  have hz5 : w.heap.size + 5 ≤ (((((w.alloc (.cells #[.slice ra R.length rc, .slice aa A.length ac] 25)).alloc (.cells #[.int .u32 xf, .string xg, .string xb] 28)).alloc (.cells #[.slice none 0 0, .slice none 0 0] 25)).alloc (.cells #[.int .u8 0] 35)).alloc (.cells #[.int .i64 0] 36)).heap.size := by simp
  have y0 := t5.at 0 rfl; have y1 := t5.at 1 rfl; have x0 := z5.at 0 rfl; have x1 := z5.at 1 rfl; have x2 := z5.at 2 rfl
  have htab := Lib.hid (tabE_yes hTab)
  have hxv := Lib.hid (show (if XidOk (xf, xg, xb) then (0 : Int) else 40) = 0 from if_pos hXid)
  clear hTab hXid
  obtain ⟨R', A', xa, er⟩ := D
  simp only at *
  have hdo' := Lib.hid hdo; clear hdo
  have hQ' := Lib.hid hQ; clear hQ
  have hX' := Lib.hid hX; clear hX
  go_enter_defers Try.func47, Try.ntmps47
  go_wp2_with (first | (go_at_call 21; refine (tcheck_any _ _ _ R A (hR.pure hB5) (hA.pure hB5) hLR hLA).mono ?_; rw [htab.out]; rintro e w1 ⟨rfl, hB1⟩; have t1 := t5.pure hB1; have z1 := z5.pure hB1; have p1 := p5.pure hB1; have q1 := q5.pure hB1; have r1 := r5.pure hB1; have hT1 := hB5.trans (hB1.mono hB5.size); have y2 := t1.at 0 rfl; have y3 := t1.at 1 rfl; have x3 := z1.at 0 rfl; have x4 := z1.at 1 rfl; have x5 := z1.at 2 rfl) | (go_at_call 50; with_reducible refine (must_ok _ _).mono ?_; rintro e _ ⟨rfl, rfl⟩) | (go_at_call 99; refine (xid_chk _ (xf, xg, xb) _ hxv.out).mono ?_; rintro e w2 ⟨rfl, hB2⟩; have t2 := t1.pure hB2; have p2 := p1.pure hB2; have q2 := q1.pure hB2; have r2 := r1.pure hB2; have hT2 := hT1.trans (hB2.mono hT1.size); have y4 := t2.at 0 rfl; have y5 := t2.at 1 rfl))
  have td := t2.drew; have pd := p2.drew; have qd := q2.drew; have rd := r2.drew; have hTd := below_dr hT2
  refine wp_region_noPanic ?_
  refine wp_region_held_drew (S := (fun w' => w'.cell? ⟨w.heap.size, 0, none⟩ = some (.slice ra R.length rc) ∧ w'.cell? ⟨w.heap.size, 1, none⟩ = some (.slice aa A.length ac))) (by kernel_rfl) ?_ (fun hHeld => ?_)
  · (first | exact ⟨k0, k1⟩ | exact ⟨j0, j1⟩ | exact ⟨i0, i1⟩ | exact ⟨y4, y5⟩)
  refine takeY 0 23 rfl rfl (v := ?_) ?_ hHeld ?_
  rotate_left 1
  · (intro w hSw; (try dsimp only at hSw); go_simp; (try with_reducible rfl))
  try simp only [Act.put, lsT, lsZ, lsS]
  refine takeY 1 24 rfl rfl (v := ?_) ?_ hHeld ?_
  rotate_left 1
  · (intro w hSw; (try dsimp only at hSw); go_simp; (try with_reducible rfl))
  try simp only [Act.put, lsT, lsZ, lsS]
  refine takeY 3 26 rfl rfl (v := ?_) ?_ hHeld ?_
  rotate_left 1
  · (intro w hSw; (try dsimp only at hSw); go_simp; (try with_reducible rfl))
  try simp only [Act.put, lsT, lsZ, lsS]
  refine takeY 4 27 rfl rfl (v := ?_) ?_ hHeld ?_
  rotate_left 1
  · (intro w hSw; (try dsimp only at hSw); go_simp; (try with_reducible rfl))
  try simp only [Act.put, lsT, lsZ, lsS]
  refine wpAnyH_ready (rs := [2]) (by kernel_rfl) (by simp) ?_
  refine AllReadyH.cons rfl (fun K hK => ?_) AllReadyH.nil
  go_simp
  (go_at_call 100; refine (br_clone _ _ R (hR.pure hTd) hLR).mono ?_; rintro e w3 ⟨v, rfl, hOR3, hB3⟩; obtain ⟨ba, bc, rfl⟩ := own_len hOR3; have t3 := td.pure hB3; have p3 := pd.pure hB3; have q3 := qd.pure hB3; have r3 := rd.pure hB3; have hT3 := hTd.trans (hB3.mono hTd.size); have i0 := t3.at 0 rfl; have i1 := t3.at 1 rfl)
  refine hK.out _ _ ?_ (fun hHeld => ?_)
  · (first | exact ⟨k0, k1⟩ | exact ⟨j0, j1⟩ | exact ⟨i0, i1⟩ | exact ⟨y4, y5⟩)
  clear hK K
  try simp only [Act.put, lsT, lsZ, lsS]
  refine wpAnyH_ready (rs := [5]) (by kernel_rfl) (by simp) ?_
  refine AllReadyH.cons rfl (fun K hK => ?_) AllReadyH.nil
  go_simp
  (go_at_call 101; refine (asc_clone _ _ A (hA.pure hT3) hLA).mono ?_; rintro e w4 ⟨v, rfl, hOA4, hB4⟩; obtain ⟨ca, cc, rfl⟩ := own_len hOA4; have t4 := t3.pure hB4; have p4 := p3.pure hB4; have q4 := q3.pure hB4; have r4 := r3.pure hB4; have hT4 := hT3.trans (hB4.mono hT3.size); have j0 := t4.at 0 rfl; have j1 := t4.at 1 rfl)
  refine hK.out _ _ ?_ (fun hHeld => ?_)
  · (first | exact ⟨k0, k1⟩ | exact ⟨j0, j1⟩ | exact ⟨i0, i1⟩ | exact ⟨y4, y5⟩)
  clear hK K
  try simp only [Act.put, lsT, lsZ, lsS]
  have hOR4 := hOR3.pure hB4
  have hAl := (Below.refl w4.heap.size w4).alloc (Nat.le_refl _) (.cells #[.slice ba R.length bc, .slice ca A.length cc] 91)
  have hBx : Blk (w4.alloc (.cells #[.slice ba R.length bc, .slice ca A.length cc] 91)) w4.heap.size [.slice ba R.length bc, .slice ca A.length cc] := Blk.new w4 [.slice ba R.length bc, .slice ca A.length cc] 91
  have t6 := t4.pure hAl; have p6 := p4.pure hAl; have q6 := q4.pure hAl; have r6 := r4.pure hAl; have hT6 := hT4.trans (hAl.mono hT4.size)
  have k0 := t6.at 0 rfl; have k1 := t6.at 1 rfl
  refine takeY 6 29 rfl rfl (v := ?_) ?_ hHeld ?_
  rotate_left 1
  · (intro w hSw; (try dsimp only at hSw); go_simp; (try with_reducible rfl))
  try simp only [Act.put, lsT, lsZ, lsS]
  refine takeY 7 30 rfl rfl (v := ?_) ?_ hHeld ?_
  rotate_left 1
  · (intro w hSw; (try dsimp only at hSw); go_simp; (try with_reducible rfl))
  try simp only [Act.put, lsT, lsZ, lsS]
  refine wpAnyH_ready (rs := [8]) (by kernel_rfl) (by simp) ?_
  refine AllReadyH.cons rfl (fun K hK => ?_) AllReadyH.nil
  go_simp
  refine hK.out _ _ ?_ (fun hHeld => ?_)
  · (first | exact ⟨k0, k1⟩ | exact ⟨j0, j1⟩ | exact ⟨i0, i1⟩ | exact ⟨y4, y5⟩)
  clear hK K
  try simp only [Act.put, lsT, lsZ, lsS]
  refine takeY 9 11 rfl rfl (v := ?_) ?_ hHeld ?_
  rotate_left 1
  · (intro w hSw; (try dsimp only at hSw); go_simp; (try with_reducible rfl))
  try simp only [Act.put, lsT, lsZ, lsS]
  refine wpAnyH_done (by kernel_rfl) ?_ _
  refine NoPanic.normal ?_
  have hge : w.heap.size + 5 ≤ w2.heap.size := Nat.le_trans hz5 (Nat.le_trans hB1.size hB2.size)
  have hge4 : w.heap.size + 5 ≤ w4.heap.size := Nat.le_trans hge (Nat.le_trans hB3.size hB4.size)
  have hOR6 := (hOR4.pure hAl).rebase (b' := w.heap.size + 5) (fun k hk => Nat.le_trans hge (hOR4.ge hk))
  have hOA6 := (hOA4.pure hAl).rebase (b' := w.heap.size + 5) (fun k hk => Nat.le_trans (Nat.le_trans hge hB3.size) (hOA4.ge hk))
  have hpre : DoPre w.heap.size (w4.alloc (.cells #[.slice ba R.length bc, .slice ca A.length cc] 91)) w4.heap.size (.slice ba R.length bc) (.slice ca A.length cc) R A := ⟨by simp; omega, hBx, hge4, hOR6, hOA6, fun e => by have := hOR4.lt e; omega, fun e => by have := hOA4.lt e; omega, fun k e1 e2 => by have h1 := hOR3.lt e1; have h2 := hOA4.ge e2; omega⟩
  have hpre' := Lib.hid hpre; clear hpre hOR6 hOA6
  go_wp2
  refine (hdo'.out _ _ _ _ hT6 hpre'.out).mono ?_
  rintro e w7 (⟨rv2, av2, rfl, rfl, tB, hOR7, hOA7, hU, hq⟩ | ⟨c, hc, hD, rfl, hU⟩)
  · have p7 := p6.upd hU (fun h => by rcases h with h | h; have := hX'.out _ h; omega; omega); have q7 := q6.upd hU (fun h => by rcases h with h | h; have := hX'.out _ h; omega; omega); have r7 := r6.upd hU (fun h => by rcases h with h | h; have := hX'.out _ h; omega; omega)
    obtain ⟨da, dc, rfl⟩ := own_len hOR7; obtain ⟨ea, ec, rfl⟩ := own_len hOA7
    have p8 := p7.other ⟨w.heap.size + 1 + 1 + 1, 0, none⟩ (.int .u8 xa) (by simp only; omega); have q8 := q7.set 0 (.int .u8 xa); have r8 := r7.other ⟨w.heap.size + 1 + 1 + 1, 0, none⟩ (.int .u8 xa) (by simp only; omega); have tB8 := tB.other ⟨w.heap.size + 1 + 1 + 1, 0, none⟩ (.int .u8 xa) (by simp only; omega)
    have m0 := q7.at 0 rfl; have m1 := q7.frozen 0
    have n0 := p8.at 0 rfl; have n1 := p8.at 1 rfl; have n2 := q8.at 0 rfl; have n3 := r8.at 0 rfl; have n4 := tB8.at 0 rfl; have n5 := tB8.at 1 rfl; have n6 := p8.frozen 0; have n7 := p8.frozen 1; have n8 := q8.frozen 0; have n9 := r8.frozen 0
    have hU' := Lib.hid hU; have hq' := Lib.hid hq; have hOR7' := Lib.hid hOR7; have hOA7' := Lib.hid hOA7; clear hU hq hOR7 hOA7
    have hne1 : w4.heap.size ≠ w.heap.size + 1 + 1 := by omega
    have hne2 : w4.heap.size ≠ w.heap.size + 1 + 1 + 1 := by omega
    have hne3 : w4.heap.size ≠ w.heap.size + 1 + 1 + 1 + 1 := by omega
    go_wp2
    go_region
    go_wp2
    have p9 := (((((p8.set 0 (.slice da R'.length dc)).set 1 (.slice ea A'.length ec)).other ⟨w.heap.size + 1 + 1 + 1, 0, none⟩ (.int .u8 xa) (by simp only; omega)).other ⟨w.heap.size + 1 + 1 + 1 + 1, 0, none⟩ (.int .i64 0) (by simp only; omega))).drew
    have q9 := (((((q8.other ⟨w.heap.size + 1 + 1, 0, none⟩ (.slice da R'.length dc) (by simp only; omega)).other ⟨w.heap.size + 1 + 1, 1, none⟩ (.slice ea A'.length ec) (by simp only; omega)).set 0 (.int .u8 xa)).other ⟨w.heap.size + 1 + 1 + 1 + 1, 0, none⟩ (.int .i64 0) (by simp only; omega))).drew
    have r9 := (((((r8.other ⟨w.heap.size + 1 + 1, 0, none⟩ (.slice da R'.length dc) (by simp only; omega)).other ⟨w.heap.size + 1 + 1, 1, none⟩ (.slice ea A'.length ec) (by simp only; omega)).other ⟨w.heap.size + 1 + 1 + 1, 0, none⟩ (.int .u8 xa) (by simp only; omega)).set 0 (.int .i64 0))).drew
    have hV : Upd (OnS (w.heap.size + 1 + 1)) w7 _ := ((((((Upd.refl _ w7).trans (Upd.set (p := ⟨w.heap.size + 1 + 1 + 1, 0, none⟩) (Or.inr (Or.inl rfl)) (.int .u8 xa)) (fun _ h _ => h)).trans (Upd.set (p := ⟨w.heap.size + 1 + 1, 0, none⟩) (Or.inl rfl) (.slice da R'.length dc)) (fun _ h _ => h)).trans (Upd.set (p := ⟨w.heap.size + 1 + 1, 1, none⟩) (Or.inl rfl) (.slice ea A'.length ec)) (fun _ h _ => h)).trans (Upd.set (p := ⟨w.heap.size + 1 + 1 + 1, 0, none⟩) (Or.inr (Or.inl rfl)) (.int .u8 xa)) (fun _ h _ => h)).trans (Upd.set (p := ⟨w.heap.size + 1 + 1 + 1 + 1, 0, none⟩) (Or.inr (Or.inr rfl)) (.int .i64 0)) (fun _ h _ => h)).drew
    have o0 := p9.at 0 rfl; have o1 := p9.at 1 rfl; have o2 := q9.at 0 rfl; have o3 := r9.at 0 rfl
    refine leaves_cons (f := 98) (args := #[.pointer (some ⟨w.heap.size + 1 + 1, 0, none⟩), .pointer (some ⟨w.heap.size + 1 + 1 + 1, 0, none⟩), .pointer (some ⟨w.heap.size + 1 + 1 + 1 + 1, 0, none⟩)]) (by simp) (by simp [go_sem]) ?_
    refine (on1_idle _ (w.heap.size + 1 + 1)).mono ?_
    rintro e u' w10 ⟨rfl, rfl, rfl⟩
    simp only [Leaves, settle]
    refine ⟨.tuple #[.agg #[.slice da R'.length dc, .slice ea A'.length ec], .int .u8 xa, .int .i64 0], (by simp [results, Try.results47, go_sem, o0, o1, o2, o3]), _, _, rfl, ?_, ?_, ?_, ?_⟩
    · exact (hOR7'.out.upd hV (fun k hk => by have := hOR7'.out.ge hk; unfold OnS; omega)).rebase (fun k hk => by have := hOR7'.out.ge hk; omega)
    · exact (hOA7'.out.upd hV (fun k hk => by have := hOA7'.out.ge hk; unfold OnS; omega)).rebase (fun k hk => by have := hOA7'.out.ge hk; omega)
    · exact ((Upd.of_below hT6).trans (hU'.out.mono (T := fun k => X k ∨ w.heap.size ≤ k) (fun k h _ => by rcases h with h | h; exact .inl h; exact .inr (by omega))) (fun k h _ => h)).trans (hV.mono (T := fun k => X k ∨ w.heap.size ≤ k) (fun k h _ => by unfold OnS at h; exact .inr (by omega))) (fun k h _ => h)
    · exact hQ'.out _ _ hq'.out (hV.mono (fun k h _ => by unfold OnS at h; omega))
  · have p7 := p6.upd hU (fun h => by rcases h with h | h; have := hX'.out _ h; omega; omega); have q7 := q6.upd hU (fun h => by rcases h with h | h; have := hX'.out _ h; omega; omega); have r7 := r6.upd hU (fun h => by rcases h with h | h; have := hX'.out _ h; omega; omega)
    cases hD
    have hU' := Lib.hid hU; clear hU
    go_wp2
    refine leaves_cons (f := 98) (args := #[.pointer (some ⟨w.heap.size + 1 + 1, 0, none⟩), .pointer (some ⟨w.heap.size + 1 + 1 + 1, 0, none⟩), .pointer (some ⟨w.heap.size + 1 + 1 + 1 + 1, 0, none⟩)]) (by simp) (by simp [go_sem]) ?_
    refine (on1_panicking _ (w.heap.size + 1 + 1) er _ _ _ _ p7 q7 r7).mono ?_
    rintro e u' w9 ⟨rfl, rfl, p9, q9, r9, hU9⟩
    have g0 := p9.at 0 rfl; have g1 := p9.at 1 rfl; have g2 := q9.at 0 rfl; have g3 := r9.at 0 rfl
    simp only [Leaves, settle, List.dropWhile_nil]
    refine ⟨.tuple #[.agg #[.slice none 0 0, .slice none 0 0], .int .u8 0, .int .i64 er], (by simp [results, Try.results47, go_sem, g0, g1, g2, g3]), _, _, rfl, Own.nil, Own.nil, ?_, fun h => absurd h hc⟩
    exact ((Upd.of_below hT6).trans (hU'.out.mono (T := fun k => X k ∨ w.heap.size ≤ k) (fun k h _ => by rcases h with h | h; exact .inl h; exact .inr (by omega))) (fun k h _ => h)).trans (hU9.mono (T := fun k => X k ∨ w.heap.size ≤ k) (fun k h _ => by unfold OnS at h; exact .inr (by omega))) (fun k h _ => h)
end Go.Proofs.Ytcelpincmpjhkaa

/- Package branch: what a call over on answers. Conditions: the table reads; at most a million of rows and associations. Written by gen_brP.py. -/
namespace Go.Proofs.Ytcelpincmpjhkaa
set_option linter.unusedSimpArgs false
set_option linter.unusedVariables false
open Go.RowKit

/-- What a call over a table answers. -/
def TabPost (w : World) (D : Res) (e : Ending) (w' : World) : Prop :=
  ∃ rv av, e = .returned (.tuple #[.agg #[rv, av], .int .u8 D.2.2.1, .int .i64 D.2.2.2]) ∧ Own w.heap.size 44 7 brEnc w' rv D.1 ∧ Own w.heap.size 57 5 ascEnc w' av D.2.1 ∧ Below w.heap.size w w'
def TabPost2 (w : World) (D : Res) (e : Ending) (w' : World) : Prop :=
  ∃ rv av, e = .returned (.tuple #[.agg #[rv, av], .int .i64 D.2.2.2]) ∧ Own w.heap.size 44 7 brEnc w' rv D.1 ∧ Own w.heap.size 57 5 ascEnc w' av D.2.1 ∧ Below w.heap.size w w'
theorem on_any (w : World) (rv av : Value) (R : List Brn) (A : List Asc) (ok : Bool) (x : Xid) (F : Nat) (caps : Array Value) (D : Res) (hR : Slc brEnc 7 w rv R) (hA : Slc ascEnc 5 w av A) (hLR : R.length ≤ 1000000) (hLA : A.length ≤ 1000000)
    (hF : ∀ (args : Array Value) (u : World), (callFunc F args).run Try.prog u = .ok (.enter F args) u)
    (hdo : TabOk R A → ok = true → XidOk x → ∀ w1 tb rv1 av1, Below w.heap.size w w1 → DoPre w.heap.size w1 tb rv1 av1 R A → Calls Try.prog F (#[.pointer (some ⟨tb, 0, none⟩)] ++ caps) w1 (DoPost w.heap.size tb D (fun _ => False) (fun _ => True) w1)) :
    Calls Try.prog 47 #[.agg #[rv, av], .bool ok, .agg #[.int .u32 x.1, .string x.2.1, .string x.2.2], .func (.func F) #[] caps] w (TabPost w (overB (mayB R A ok x) D)) := by
  by_cases hm : mayB R A ok x = 0
  · obtain ⟨h1, h2, h3⟩ := mayB_zero hm
    subst h2
    refine (on_ok w rv av R A x F caps D (fun _ => False) (fun _ => True) hR hA hLR hLA h1 h3 (fun k h => h.elim) (fun _ _ _ _ => trivial) hF (hdo h1 rfl h3)).mono ?_
    rintro e w' ⟨rv', av', rfl, hr, ha, hU, -⟩
    have hD : overB (mayB R A true x) D = D := by unfold overB; rw [if_pos hm]
    rw [hD]
    exact ⟨rv', av', rfl, hr, ha, hU.below (Nat.le_refl _) (fun k h => h.elim (fun h => h.elim) id)⟩
  · refine (on_no w rv av R A ok x F caps hR hA hLR hLA hm).mono ?_
    rintro e w' ⟨rfl, hB⟩
    have hD : overB (mayB R A ok x) D = errR (mayB R A ok x) := by unfold overB; rw [if_neg hm]
    rw [hD]
    exact ⟨_, _, rfl, Own.nil, Own.nil, hB⟩
end Go.Proofs.Ytcelpincmpjhkaa
