/- Properties: Put, the program's. Conditions: utf8's tables are laid. Written by gen_prF.py. (Texts joined.) -/
import Derived.Test.YtgnaifhmcllnlaaGreatDoorB02
import Derived.ProofKit
import Derived.OpenShut
import Derived.Deep.Slices
set_option maxRecDepth 100000
set_option maxHeartbeats 12800000
set_option linter.unusedSimpArgs false
set_option linter.unusedVariables false
namespace Go.Proofs.YtgnaifhmcllnlaaGreatDoor
open Go.RowKit Tryz
theorem arb (w : World) (la xa : Option Addr) (lc xc : Nat) (l l2 : List VT) (P P2 : Nat → Prop) (hL : Slc ac6 5 w (.slice la l.length lc) l) (hL2 : Slc ac6 5 w (.slice xa l2.length xc) l2) (hml : (l.length : Int) ≤ 9223372036854775807)
 (hsubh : Hid (∀ x ∈ l, Rd P w x)) (hsub2h : Hid (∀ x ∈ l2, Rd P2 w x))
 (ihh : Hid (∀ x ∈ l, ∀ (u : VT) (P P2 : Nat → Prop) (w : World), Rd P w x → Rd P2 w u → Calls prog 124 #[x.arg, u.arg] w fun e w' => (∃ b : Bool, e = .returned (.bool b) ∧ (b = true ↔ x.v = u.v)) ∧ Below w.heap.size w w')) :
 Calls prog 159 #[.slice la l.length lc, .slice xa l2.length xc, .func (.func 124) #[] #[]] w fun e w' => (∃ b : Bool, e = .returned (.bool b) ∧ (b = true ↔ l.map VT.v = l2.map VT.v)) ∧ Below w.heap.size w w' := by
 by_cases e : l2.length = l.length
 rotate_left 1
 ·have h1 : ¬ (l.length : Int) = (l2.length : Int) := by omega
  have h2 : ((l.length : Int) != (l2.length : Int)) = true := bne_iff_ne.2 h1; have hno := qq (fun h : l.map VT.v = l2.map VT.v => e (by have := congrArg List.length h; simpa using this.symm)); clear e; go_enter func159, ntmps159; go_wp2; go_ret; exact ⟨⟨false, rfl, ⟨fun h => jp h (by simp), fun h => jp h hno.out⟩⟩, qz _ _⟩
 rw [e] at hL2 ⊢
 have hll := qq e
 clear e
 go_enter func159, ntmps159
 go_wp2
 go_loopw [17] (fun s5 wr => ∃ (k : Nat), k ≤ l.length ∧ s5 = .int .i64 k ∧ Hid ((l.map VT.v).take k = (l2.map VT.v).take k) ∧ Below w.heap.size w wr) (fun s5 _ => l.length - (intOf s5).toNat)
 case atStart => exact ⟨0, by omega, rfl, qq (by simp), qz _ _⟩
 case round =>
  obtain ⟨k, hk, rfl, htk, hB⟩ := hrel; by_cases hlt : k < l.length
  ·have h1 : (k : Int) < (l.length : Int) := by omega
   have hlt2 : k < l2.length := by rw [hll.out]; exact hlt
   have hLr := hL.pure hB; have hLr2 := hL2.pure hB; rw [← hll.out] at hLr2; obtain ⟨g, off, rfl⟩ := hLr.addrB hlt; obtain ⟨g2, off2, rfl⟩ := hLr2.addrB hlt2; have hRk := (hsubh.out l[k] (qy hlt)).pure hB; have hRk2 := (hsub2h.out l2[k] (qy hlt2)).pure hB; have hi0 := fun (u : World) (hu : Below w.heap.size w u) => ihh.out l[k] (qy hlt) l2[k] P P2 u ((hsubh.out l[k] (qy hlt)).pure hu) ((hsub2h.out l2[k] (qy hlt2)).pure hu)
   obtain ⟨xk, xn, xs, xka, xkl, xkc, xla, xll, xlc, xks, xl, hx, q0, q1, q2, q3, q4⟩ := ae4 hLr hlt hRk; obtain ⟨yk, yn, ys, yka, ykl, ykc, yla, yll, ylc, yks, yl, hy, r0, r1, r2, r3, r4⟩ := ae4 hLr2 hlt2 hRk2; have hst := qq (fun e : l[k].v = l2[k].v => show (l.map VT.v).take (k + 1) = (l2.map VT.v).take (k + 1) by rw [jx (by simpa using hlt), jx (by simpa using hlt2), htk.out, zq, zq, e])
   have hno := qq (fun h : l.map VT.v = l2.map VT.v => show l[k].v = l2[k].v by
    have e1 : (l.map VT.v)[k]? = (l2.map VT.v)[k]? := by rw [h]
    rw [List.getElem?_map, List.getElem?_map, List.getElem?_eq_getElem hlt, List.getElem?_eq_getElem hlt2] at e1
    exact Option.some.inj e1)
   obtain ⟨Q, hQ⟩ : ∃ Q : Prop, (l[k].v = l2[k].v) = Q := ⟨_, rfl⟩
   rw [hQ] at hi0 hst hno; rw [hx, hy, VT.arg_mk, VT.arg_mk] at hi0; have rr := aoo (hLr2.pure ((qz wr.heap.size wr).alloc (qj _) (.cells #[.int .u8 xk, .int .u64 xn, .string xs, .slice xka xkl xkc, .slice xla xll xlc] 56))) hlt2; rw [hy] at rr; have rr2 : (wr.alloc (.cells #[.int .u8 xk, .int .u64 xn, .string xs, .slice xka xkl xkc, .slice xla xll xlc] 56)).cell? ⟨g2, off2 + k * 5, none⟩ = some (.int .u8 yk) ∧ (wr.alloc (.cells #[.int .u8 xk, .int .u64 xn, .string xs, .slice xka xkl xkc, .slice xla xll xlc] 56)).cell? ⟨g2, off2 + k * 5 + 1, none⟩ = some (.int .u64 yn) ∧ (wr.alloc (.cells #[.int .u8 xk, .int .u64 xn, .string xs, .slice xka xkl xkc, .slice xla xll xlc] 56)).cell? ⟨g2, off2 + k * 5 + 2, none⟩ = some (.string ys) ∧ (wr.alloc (.cells #[.int .u8 xk, .int .u64 xn, .string xs, .slice xka xkl xkc, .slice xla xll xlc] 56)).cell? ⟨g2, off2 + k * 5 + 3, none⟩ = some (.slice yka ykl ykc) ∧ (wr.alloc (.cells #[.int .u8 xk, .int .u64 xn, .string xs, .slice xka xkl xkc, .slice xla xll xlc] 56)).cell? ⟨g2, off2 + k * 5 + 4, none⟩ = some (.slice yla yll ylc) := rr; clear rr; obtain ⟨s0, s1, s2, s3, s4⟩ := rr2; clear hx hy hQ hRk hRk2 hLr hLr2; have hBb1 := hB.alloc hB.size (.cells #[.int .u8 xk, .int .u64 xn, .string xs, .slice xka xkl xkc, .slice xla xll xlc] 56); have hBb2 := hBb1.alloc hBb1.size (.cells #[.int .u8 yk, .int .u64 yn, .string ys, .slice yka ykl ykc, .slice yla yll ylc] 56); have hi := hi0 _ hBb2; clear hi0; have bx := (Blk.new wr [.int .u8 xk, .int .u64 xn, .string xs, .slice xka xkl xkc, .slice xla xll xlc] 56).alloc (.cells #[.int .u8 yk, .int .u64 yn, .string ys, .slice yka ykl ykc, .slice yla yll ylc] 56); have by_ := Blk.new (wr.alloc (.cells #[.int .u8 xk, .int .u64 xn, .string xs, .slice xka xkl xkc, .slice xla xll xlc] 56)) [.int .u8 yk, .int .u64 yn, .string ys, .slice yka ykl ykc, .slice yla yll ylc] 56; rw [show (wr.alloc (.cells #[.int .u8 xk, .int .u64 xn, .string xs, .slice xka xkl xkc, .slice xla xll xlc] 56)).heap.size = wr.heap.size + 1 by simp] at by_; obtain ⟨c0, c1, c2, c3, c4⟩ := bx.a5; obtain ⟨d0, d1, d2, d3, d4⟩ := by_.a5; by_cases hq : Q
   rotate_left 1
   ·have hih := qq (show Calls prog 124 #[.agg #[.int .u8 xk, .int .u64 xn, .string xs, .slice xka xkl xkc, .slice xla xll xlc], .agg #[.int .u8 yk, .int .u64 yn, .string ys, .slice yka ykl ykc, .slice yla yll ylc]] ((wr.alloc (.cells #[.int .u8 xk, .int .u64 xn, .string xs, .slice xka xkl xkc, .slice xla xll xlc] 56)).alloc (.cells #[.int .u8 yk, .int .u64 yn, .string ys, .slice yka ykl ykc, .slice yla yll ylc] 56)) (fun e w' => e = .returned (.bool false) ∧ Below ((wr.alloc (.cells #[.int .u8 xk, .int .u64 xn, .string xs, .slice xka xkl xkc, .slice xla xll xlc] 56)).alloc (.cells #[.int .u8 yk, .int .u64 yn, .string ys, .slice yka ykl ykc, .slice yla yll ylc] 56)).heap.size ((wr.alloc (.cells #[.int .u8 xk, .int .u64 xn, .string xs, .slice xka xkl xkc, .slice xla xll xlc] 56)).alloc (.cells #[.int .u8 yk, .int .u64 yn, .string ys, .slice yka ykl ykc, .slice yla yll ylc] 56)) w') from hi.mono (by
     rintro e w1 ⟨⟨y, rfl, hyq⟩, hB1⟩; cases y
     ·exact ⟨rfl, hB1⟩
     ·exact jp (hyq.1 rfl) hq))
    have hqn := qq hq; clear hi hq; go_wp2_with (first | (go_at_call 124; (with_reducible refine hih.out.mono ?_); rintro e w1 ⟨rfl, hB1⟩; have hB2 := hBb2.trans (hB1.mono hBb2.size))); go_ret; exact ⟨⟨false, rfl, ⟨fun h => jp h (by simp), fun h => jp (hno.out h) hqn.out⟩⟩, hB2⟩
   ·have hih := qq (show Calls prog 124 #[.agg #[.int .u8 xk, .int .u64 xn, .string xs, .slice xka xkl xkc, .slice xla xll xlc], .agg #[.int .u8 yk, .int .u64 yn, .string ys, .slice yka ykl ykc, .slice yla yll ylc]] ((wr.alloc (.cells #[.int .u8 xk, .int .u64 xn, .string xs, .slice xka xkl xkc, .slice xla xll xlc] 56)).alloc (.cells #[.int .u8 yk, .int .u64 yn, .string ys, .slice yka ykl ykc, .slice yla yll ylc] 56)) (fun e w' => e = .returned (.bool true) ∧ Below ((wr.alloc (.cells #[.int .u8 xk, .int .u64 xn, .string xs, .slice xka xkl xkc, .slice xla xll xlc] 56)).alloc (.cells #[.int .u8 yk, .int .u64 yn, .string ys, .slice yka ykl ykc, .slice yla yll ylc] 56)).heap.size ((wr.alloc (.cells #[.int .u8 xk, .int .u64 xn, .string xs, .slice xka xkl xkc, .slice xla xll xlc] 56)).alloc (.cells #[.int .u8 yk, .int .u64 yn, .string ys, .slice yka ykl ykc, .slice yla yll ylc] 56)) w') from hi.mono (by
     rintro e w1 ⟨⟨y, rfl, hyq⟩, hB1⟩; cases y
     ·exact jp (hyq.2 hq) (by simp)
     ·exact ⟨rfl, hB1⟩))
    have hst2 := qq (hst.out hq); clear hi hq; go_wp2_with (first | (go_at_call 124; (with_reducible refine hih.out.mono ?_); rintro e w1 ⟨rfl, hB1⟩; have hB2 := hBb2.trans (hB1.mono hBb2.size))); go_roundw
    case rel => exact ⟨k + 1, by omega, by go_num, hst2, hB2⟩
    case measure => simp [intOf]; omega
  ·obtain rfl : k = l.length := by omega
   have hls := qq (show l.map VT.v = l2.map VT.v by have h := htk.out; rw [List.take_of_length_le (by simp), List.take_of_length_le (by simp; rw [hll.out]; exact qj _)] at h; exact h); go_wp2; go_ret; exact ⟨⟨true, rfl, ⟨fun _ => hls.out, fun _ => rfl⟩⟩, hB⟩
theorem ajc (t : VT) : ∀ (u : VT) (P P2 : Nat → Prop) (w : World), Rd P w t → Rd P2 w u → Calls prog 124 #[t.arg, u.arg] w fun e w' => (∃ b : Bool, e = .returned (.bool b) ∧ (b = true ↔ t.v = u.v)) ∧ Below w.heap.size w w' := by
 induction t using VT.ind with
 | h t ih =>
  intro u P P2 w hR hR2; have hsub : ∀ x ∈ t.l, Rd P w x := hR.sub
  have hsub2 : ∀ x ∈ u.l, Rd P2 w x := hR2.sub
  obtain ⟨tk, tn, ts, ka, kc, la, lc, ks, l, rfl, hK, hL, hmk, hml⟩ := hR.open; obtain ⟨uk, un, us, va, vc, xa, xc, ks2, l2, rfl, hK2, hL2, hmk2, hml2⟩ := hR2.open; simp only [VT.arg_mk, bbf]; have ih' : ∀ x ∈ l, ∀ (u : VT) (P P2 : Nat → Prop) (w : World), Rd P w x → Rd P2 w u → Calls prog 124 #[x.arg, u.arg] w fun e w' => (∃ b : Bool, e = .returned (.bool b) ∧ (b = true ↔ x.v = u.v)) ∧ Below w.heap.size w w' := ih
  have hsub' : ∀ x ∈ l, Rd P w x := hsub
  have hsub2' : ∀ x ∈ l2, Rd P2 w x := hsub2
  have hkeys := qq (fun (u : World) (hu : Below w.heap.size w u) => ara u ka va kc vc ks ks2 (hK.pure hu) (hK2.pure hu) hmk); have hlist := qq (fun (u : World) (hu : Below w.heap.size w u) => arb u la xa lc xc l l2 P P2 (hL.pure hu) (hL2.pure hu) hml (qq fun x hx => (hsub' x hx).pure hu) (qq fun x hx => (hsub2' x hx).pure hu) (qq ih')); clear ih ih' hR hR2 hsub hsub2 hsub' hsub2' hmk hml hmk2 hml2 hK hK2 hL hL2; by_cases e : tk = uk
  rotate_left 1
  ·have h1 : (tk == uk) = false := ju.2 e
   have hno := qq (e); clear e; have hB0 := ((qz w.heap.size w).alloc (qj _) (.cells #[.int .u8 tk, .int .u64 tn, .string ts, .slice ka ks.length kc, .slice la l.length lc] 56)); have hB1 := hB0.alloc hB0.size (.cells #[.int .u8 uk, .int .u64 un, .string us, .slice va ks2.length vc, .slice xa l2.length xc] 56); have b0 := (Blk.new w [.int .u8 tk, .int .u64 tn, .string ts, .slice ka ks.length kc, .slice la l.length lc] 56).alloc (.cells #[.int .u8 uk, .int .u64 un, .string us, .slice va ks2.length vc, .slice xa l2.length xc] 56); have b1 := Blk.new (w.alloc (.cells #[.int .u8 tk, .int .u64 tn, .string ts, .slice ka ks.length kc, .slice la l.length lc] 56)) [.int .u8 uk, .int .u64 un, .string us, .slice va ks2.length vc, .slice xa l2.length xc] 56; rw [show (w.alloc (.cells #[.int .u8 tk, .int .u64 tn, .string ts, .slice ka ks.length kc, .slice la l.length lc] 56)).heap.size = w.heap.size + 1 by simp] at b1; obtain ⟨c0, c1, c2, c3, c4⟩ := b0.a5; obtain ⟨d0, d1, d2, d3, d4⟩ := b1.a5; go_enter func124, ntmps124; go_wp2; go_ret; exact ⟨⟨false, rfl, ⟨fun h => jp h (by simp), fun h => jp h.1 hno.out⟩⟩, hB1⟩
  subst e; by_cases e : tn = un
  rotate_left 1
  ·have h1 : (tn == un) = false := ju.2 e
   have hno := qq (e); clear e; have hB0 := ((qz w.heap.size w).alloc (qj _) (.cells #[.int .u8 tk, .int .u64 tn, .string ts, .slice ka ks.length kc, .slice la l.length lc] 56)); have hB1 := hB0.alloc hB0.size (.cells #[.int .u8 tk, .int .u64 un, .string us, .slice va ks2.length vc, .slice xa l2.length xc] 56); have b0 := (Blk.new w [.int .u8 tk, .int .u64 tn, .string ts, .slice ka ks.length kc, .slice la l.length lc] 56).alloc (.cells #[.int .u8 tk, .int .u64 un, .string us, .slice va ks2.length vc, .slice xa l2.length xc] 56); have b1 := Blk.new (w.alloc (.cells #[.int .u8 tk, .int .u64 tn, .string ts, .slice ka ks.length kc, .slice la l.length lc] 56)) [.int .u8 tk, .int .u64 un, .string us, .slice va ks2.length vc, .slice xa l2.length xc] 56; rw [show (w.alloc (.cells #[.int .u8 tk, .int .u64 tn, .string ts, .slice ka ks.length kc, .slice la l.length lc] 56)).heap.size = w.heap.size + 1 by simp] at b1; obtain ⟨c0, c1, c2, c3, c4⟩ := b0.a5; obtain ⟨d0, d1, d2, d3, d4⟩ := b1.a5; go_enter func124, ntmps124; go_wp2; go_ret; exact ⟨⟨false, rfl, ⟨fun h => jp h (by simp), fun h => jp h.2.1 hno.out⟩⟩, hB1⟩
  subst e; by_cases e : ts = us
  rotate_left 1
  ·have h1 : ¬ ts.toList = us.toList := acd e
   have h2 : (ts.toList == us.toList) = false := ju.2 h1; have hno := qq (e); clear e; have hB0 := ((qz w.heap.size w).alloc (qj _) (.cells #[.int .u8 tk, .int .u64 tn, .string ts, .slice ka ks.length kc, .slice la l.length lc] 56)); have hB1 := hB0.alloc hB0.size (.cells #[.int .u8 tk, .int .u64 tn, .string us, .slice va ks2.length vc, .slice xa l2.length xc] 56); have b0 := (Blk.new w [.int .u8 tk, .int .u64 tn, .string ts, .slice ka ks.length kc, .slice la l.length lc] 56).alloc (.cells #[.int .u8 tk, .int .u64 tn, .string us, .slice va ks2.length vc, .slice xa l2.length xc] 56); have b1 := Blk.new (w.alloc (.cells #[.int .u8 tk, .int .u64 tn, .string ts, .slice ka ks.length kc, .slice la l.length lc] 56)) [.int .u8 tk, .int .u64 tn, .string us, .slice va ks2.length vc, .slice xa l2.length xc] 56; rw [show (w.alloc (.cells #[.int .u8 tk, .int .u64 tn, .string ts, .slice ka ks.length kc, .slice la l.length lc] 56)).heap.size = w.heap.size + 1 by simp] at b1; obtain ⟨c0, c1, c2, c3, c4⟩ := b0.a5; obtain ⟨d0, d1, d2, d3, d4⟩ := b1.a5; go_enter func124, ntmps124; go_wp2; go_ret; exact ⟨⟨false, rfl, ⟨fun h => jp h (by simp), fun h => jp h.2.2.1 hno.out⟩⟩, hB1⟩
  subst e; by_cases e : ks = ks2
  rotate_left 1
  ·have hdk : decide (ks = ks2) = false := qg e
   have hno := qq e; clear e; have hB0 := ((qz w.heap.size w).alloc (qj _) (.cells #[.int .u8 tk, .int .u64 tn, .string ts, .slice ka ks.length kc, .slice la l.length lc] 56)); have hB1 := hB0.alloc hB0.size (.cells #[.int .u8 tk, .int .u64 tn, .string ts, .slice va ks2.length vc, .slice xa l2.length xc] 56); have b0 := (Blk.new w [.int .u8 tk, .int .u64 tn, .string ts, .slice ka ks.length kc, .slice la l.length lc] 56).alloc (.cells #[.int .u8 tk, .int .u64 tn, .string ts, .slice va ks2.length vc, .slice xa l2.length xc] 56); have b1 := Blk.new (w.alloc (.cells #[.int .u8 tk, .int .u64 tn, .string ts, .slice ka ks.length kc, .slice la l.length lc] 56)) [.int .u8 tk, .int .u64 tn, .string ts, .slice va ks2.length vc, .slice xa l2.length xc] 56; rw [show (w.alloc (.cells #[.int .u8 tk, .int .u64 tn, .string ts, .slice ka ks.length kc, .slice la l.length lc] 56)).heap.size = w.heap.size + 1 by simp] at b1; obtain ⟨c0, c1, c2, c3, c4⟩ := b0.a5; obtain ⟨d0, d1, d2, d3, d4⟩ := b1.a5; go_enter func124, ntmps124; go_wp2_with (first | (go_at_call 158; (with_reducible refine (hkeys.out _ hB1).mono ?_); rintro e w1 ⟨rfl, hBk⟩; have hB2 := hB1.trans (hBk.mono hB1.size); have k1 := b0.below hBk (by simp <;> omega); have k2 := b1.below hBk (by simp <;> omega); have c4 := k1.at 4 rfl; have d4 := k2.at 4 rfl; rw [hdk])); go_ret; exact ⟨⟨false, rfl, ⟨fun h => jp h (by simp), fun h => jp h.2.2.2.1 hno.out⟩⟩, hB2⟩
  have hdk : decide (ks = ks2) = true := qp e; have hks := qq e; clear e; have hB0 := ((qz w.heap.size w).alloc (qj _) (.cells #[.int .u8 tk, .int .u64 tn, .string ts, .slice ka ks.length kc, .slice la l.length lc] 56)); have hB1 := hB0.alloc hB0.size (.cells #[.int .u8 tk, .int .u64 tn, .string ts, .slice va ks2.length vc, .slice xa l2.length xc] 56); have b0 := (Blk.new w [.int .u8 tk, .int .u64 tn, .string ts, .slice ka ks.length kc, .slice la l.length lc] 56).alloc (.cells #[.int .u8 tk, .int .u64 tn, .string ts, .slice va ks2.length vc, .slice xa l2.length xc] 56); have b1 := Blk.new (w.alloc (.cells #[.int .u8 tk, .int .u64 tn, .string ts, .slice ka ks.length kc, .slice la l.length lc] 56)) [.int .u8 tk, .int .u64 tn, .string ts, .slice va ks2.length vc, .slice xa l2.length xc] 56; rw [show (w.alloc (.cells #[.int .u8 tk, .int .u64 tn, .string ts, .slice ka ks.length kc, .slice la l.length lc] 56)).heap.size = w.heap.size + 1 by simp] at b1; obtain ⟨c0, c1, c2, c3, c4⟩ := b0.a5; obtain ⟨d0, d1, d2, d3, d4⟩ := b1.a5; go_enter func124, ntmps124; go_wp2_with (first | (go_at_call 158; (with_reducible refine (hkeys.out _ hB1).mono ?_); rintro e w1 ⟨rfl, hBk⟩; have hB2 := hB1.trans (hBk.mono hB1.size); have k1 := b0.below hBk (by simp <;> omega); have k2 := b1.below hBk (by simp <;> omega); have c4 := k1.at 4 rfl; have d4 := k2.at 4 rfl; rw [hdk]) | (go_at_call 159; (with_reducible refine (hlist.out _ hB2).mono ?_); rintro e w2 ⟨⟨b, rfl, hbq⟩, hBl⟩; have hB3 := hB2.trans (hBl.mono hB2.size))); go_ret; exact ⟨⟨b, rfl, ⟨fun h => ⟨trivial, trivial, trivial, hks.out, hbq.1 h⟩, fun h => hbq.2 h.2.2.2.2⟩⟩, hB3⟩
theorem atd {t u : VT} {P P2 : Nat → Prop} {w : World} (h : Rd P w t) (k : Rd P2 w u) (e : t.v = u.v) : Calls prog 124 #[t.arg, u.arg] w fun r w' => r = .returned (.bool true) ∧ Below w.heap.size w w' :=
 (ajc t u P P2 w h k).mono fun r w' ⟨⟨b, hr, hb⟩, hB⟩ => ⟨by rw [hr, hb.2 e], hB⟩
theorem awc {t u : VT} {P P2 : Nat → Prop} {w : World} (h : Rd P w t) (k : Rd P2 w u) (e : t.v ≠ u.v) : Calls prog 124 #[t.arg, u.arg] w fun r w' => r = .returned (.bool false) ∧ Below w.heap.size w w' :=
 (ajc t u P P2 w h k).mono fun r w' ⟨⟨b, hr, hb⟩, hB⟩ => ⟨by rw [hr]; cases b with | false => rfl | true => exact jp (hb.1 rfl) e, hB⟩
theorem VT.zero_rd {P : Nat → Prop} {w : World} : Rd P w VT.zero := Rd.leaf (by omega) (by omega) (by omega) (by omega)
theorem VT.zero_v : VT.zero.v = .mk 0 0 ⟨#[]⟩ [] [] := by simp [VT.zero, VT.v, VT.vL]
theorem aov {w : World} {o : Option (V × Nat)} {e : Ending} {w' : World} (h : atc w o e w') : ∃ (tk tn : Int) (ts : ByteArray) (ka : Option Addr) (kc : Nat) (la : Option Addr) (lc : Nat) (tks : List ByteArray) (tl : List VT),
 e = .returned (.tuple #[.agg #[.int .u8 tk, .int .u64 tn, .string ts, .slice ka tks.length kc, .slice la tl.length lc], .int .i64 (bdv o), .int .i64 (bdw o)]) ∧ (VT.mk tk tn ts (.slice ka tks.length kc) (.slice la tl.length lc) tks tl).v = ax6 o ∧
 Rd (fun i => w.heap.size ≤ i) w' (VT.mk tk tn ts (.slice ka tks.length kc) (.slice la tl.length lc) tks tl) ∧ Below w.heap.size w w' := by
 match o, h with
 | none, ⟨he, hB⟩ => exact ⟨0, 0, ⟨#[]⟩, none, 0, none, 0, [], [], he, VT.zero_v, VT.zero_rd, hB⟩
 | some (x, n), ⟨t, he, hv, hR, hB⟩ =>
  obtain ⟨tk, tn, ts, ka, kc, la, lc, tks, tl, rfl, -⟩ := hR.open; exact ⟨tk, tn, ts, ka, kc, la, lc, tks, tl, he, hv, hR, hB⟩
structure PT where
 key : ByteArray
 dur : Bool
 red : Bool
 mid : ByteArray
 app : VT
def PT.p (t : PT) : Pr := ⟨t.key, t.dur, t.red, t.mid, t.app.v⟩
def PT.arg (t : PT) : Value := .agg #[.string t.key, .bool t.dur, .bool t.red, .string t.mid, .int .u8 t.app.k, .int .u64 t.app.n, .string t.app.s, t.app.kv, t.app.lv]
theorem PT.arg_mk (key mid : ByteArray) (dur red : Bool) (k n : Int) (s : ByteArray) (kv lv : Value) (ks : List ByteArray) (l : List VT) : (PT.mk key dur red mid (VT.mk k n s kv lv ks l)).arg = .agg #[.string key, .bool dur, .bool red, .string mid, .int .u8 k, .int .u64 n, .string s, kv, lv] := rfl
theorem ajd : (prog.info? 58).map (fun i => (i.zero, i.size)) = some (some (.agg #[.string ⟨#[]⟩, .bool false, .bool false, .string ⟨#[]⟩, .int .u8 0, .int .u64 0, .string ⟨#[]⟩, .slice none 0 0, .slice none 0 0]), 9) := by kernel_rfl
theorem VT.zero_vz : VT.zero.v = V.zero := VT.zero_v
theorem ate {k n : Int} {s : ByteArray} {kv lv : Value} {ks : List ByteArray} {l : List VT} : (VT.mk k n s kv lv ks l).v.kind = k := by rw [VT.v_eq]; rfl
inductive V.Fit : V → Prop
 | mk {k n : Int} {s : ByteArray} {ks : List ByteArray} {l : List V} : ks.length ≤ 1000000 → l.length ≤ 1000000 → (∀ t ∈ l, V.Fit t) → V.Fit (.mk k n s ks l)
theorem ap7 : ∀ (l : List V) (m : Int), 0 ≤ V.cntL l m → ∀ t ∈ l, ∃ m', m' ≤ m ∧ 0 ≤ t.cnt m'
 | [], m, _, t, ht => jp ht (by simp)
 | x :: xs, m, h, t, ht => by
  unfold V.cntL at h; by_cases hm : m < 0
  ·rw [qw hm] at h; omega
  ·rw [qk hm] at h
   have h1 := af4 xs (x.cnt m); rcases List.mem_cons.1 ht with rfl | ht
   ·exact ⟨m, Int.le_refl _, by omega⟩
   ·obtain ⟨m', h2, h3⟩ := ap7 xs (x.cnt m) h t ht
    have h4 := ak2 x m; exact ⟨m', by omega, h3⟩
theorem bbg (v : V) : ∀ n : Int, v.Kfit → 0 ≤ v.cnt n → n ≤ 1000000 → v.Fit := by
 induction v using V.ind with
 | h k n s ks l ih =>
  intro m hk h0 h1; unfold V.cnt at h0; have h2 := apy l (m - 1) h0; have h3 := af4 l (m - 1)
  cases hk with
  | mk hk hs => exact .mk hk (by omega) (fun t ht => by
   obtain ⟨m', h4, h5⟩ := ap7 l (m - 1) h0 t ht
   exact ih t ht m' (hs t ht) h5 (by omega))
theorem atf {v : V} (h : 0 ≤ v.cnt 400 ∧ V.Kfit v) : v.Fit := bbg v 400 h.2 h.1 (by omega)
structure CpSt (w0 : World) (X : Nat) (k n : Int) (s : ByteArray) (w : World) (kv lv : Value) (ks : List ByteArray) (L : List VT) : Prop where
 x : Blk w X [.int .u8 k, .int .u64 n, .string s, kv, lv]
 ko : Own w0.heap.size 9 1 abv w kv ks
 lo : Own w0.heap.size 56 5 ac6 w lv L
 rd : ∀ x ∈ L, Rd (MP w0.heap.size kv lv) w x
 up : Upd (acu X) w0 w
 xl : X < w0.heap.size
section
variable {w0 w w' : World} {X : Nat} {k n : Int} {s : ByteArray} {kv lv : Value} {ks : List ByteArray} {L : List VT}
theorem CpSt.pure (h : CpSt w0 X k n s w kv lv ks L) (hB : Below w.heap.size w w') : CpSt w0 X k n s w' kv lv ks L :=
 ⟨h.x.pure hB, h.ko.pure hB, h.lo.pure hB, fun x hx => (h.rd x hx).pure hB, h.up.trans (Upd.of_below (S := fun _ => False) hB) (fun _ e _ => e.elim), h.xl⟩
theorem CpSt.tree {t : VT} (h : CpSt w0 X k n s w kv lv ks L) (ht : Rd (fun i => w.heap.size ≤ i) w' t) : Rd (MP w0.heap.size kv lv) w' t :=
 ht.weaken (fun i _ hi => ⟨jk h.up.size hi, fun e => by have := h.ko.lt e; omega, fun e => by have := h.lo.lt e; omega⟩)
theorem CpSt.app {g cap : Nat} {t : VT} (h : CpSt w0 X k n s w kv lv ks L) (hO : Own w0.heap.size 56 5 ac6 w' (.slice (some ⟨g, 0, none⟩) (L.length + 1) cap) (L ++ [t])) (hg : w.grownBy w' lv.ownBlock) (hf : lv.ownBlock = some g ∨ g = w.heap.size)
 (ht : Rd (MP w0.heap.size kv lv) w t) :
 Blk w' X [.int .u8 k, .int .u64 n, .string s, kv, lv] ∧ CpSt w0 X k n s (w'.setCell ⟨X, 4, none⟩ (.slice (some ⟨g, 0, none⟩) (L.length + 1) cap)) kv (.slice (some ⟨g, 0, none⟩) (L.length + 1) cap) ks (L ++ [t]) := by
 have h2 := h.xl
 have hgb : w0.heap.size ≤ g := hO.ge rfl
 have hu1 : Upd (fun i => lv.ownBlock = some i) w w' := Upd.grown hg (fun i e => e)
 have hs := Upd.set (S := fun i => i = X) (w := w') (p := ⟨X, 4, none⟩) rfl (.slice (some ⟨g, 0, none⟩) (L.length + 1) cap)
 have hx : Blk w' X [.int .u8 k, .int .u64 n, .string s, kv, lv] := h.x.upd hu1 (fun e => by have := h.lo.ge e; omega)
 have hu : Upd (fun i => lv.ownBlock = some i ∨ i = g ∨ i = X) w (w'.setCell ⟨X, 4, none⟩ (.slice (some ⟨g, 0, none⟩) (L.length + 1) cap)) := (hu1.mono (fun i e _ => .inl e)).trans hs (fun i e _ => .inr (.inr e))
 have hrd : ∀ x, Rd (MP w0.heap.size kv lv) w x → Rd (MP w0.heap.size kv (.slice (some ⟨g, 0, none⟩) (L.length + 1) cap)) (w'.setCell ⟨X, 4, none⟩ (.slice (some ⟨g, 0, none⟩) (L.length + 1) cap)) x := fun x hx => by
  exact ahg
 refine ⟨hx, hx.set 4 _, h.ko.upd hu (fun i hi e => ?_), hO.upd hs (fun i hi e => by have := hO.ge hi; omega), fun x hx => ?_, h.up.trans hu (fun i e hi => by rcases e with e | e | e; (have := h.lo.ge e; omega); omega; exact e), h.xl⟩
 ·exact af8
 ·exact af9
theorem CpSt.whole {S : Nat → Prop} (h : CpSt w0 X k n s w kv lv ks L) (hu : Upd S w w') (hS : ∀ i, S i → i < w0.heap.size) (hn0 : 0 ≤ n) (hn1 : n < 18446744073709551616) (h0 : 0 ≤ k) (h1 : k < 256) : Rd (fun i => w0.heap.size ≤ i) w' (.mk k n s kv lv ks L) :=
 .mk ((h.ko.upd hu (fun i hi e => by have h2 := h.ko.ge hi; have h3 := hS i e; omega)).slc ac7) (fun _ i hi => h.ko.ge hi) ((h.lo.upd hu (fun i hi e => by have h2 := h.lo.ge hi; have h3 := hS i e; omega)).slc aak) (fun _ i hi => h.lo.ge hi)
  (fun x hx => ((h.rd x hx).upd hu (fun i hi e => by have h2 := hi.1; have h3 := hS i e; omega)).weaken (fun i _ hi => hi.1)) hn0 hn1 h0 h1
end
theorem atg (t : VT) : ∀ (P : Nat → Prop) (w : World), Rd P w t → V.Fit t.v → Calls prog 76 #[t.arg] w fun e w' => ∃ t' : VT, e = .returned t'.arg ∧ t'.v = t.v ∧ Rd (fun i => w.heap.size ≤ i) w' t' ∧ Below w.heap.size w w' := by
 induction t using VT.ind with
 | h t ih =>
  intro P w hR hfit; have hR0 := hR.here; have hn0 := hR.n0; have hn1 := hR.n1; have hk0 := hR.k0; have hk1 := hR.k1; obtain ⟨tk, tn, ts, tka, tkc, tla, tlc, tks, tl, rfl, hK, hL, hmk, hml⟩ := hR.open; have hnk := qq (show 0 ≤ tn ∧ tn < 18446744073709551616 ∧ 0 ≤ tk ∧ tk < 256 from ⟨hn0, hn1, hk0, hk1⟩); rw [VT.arg_mk]; have ih' : ∀ x ∈ tl, ∀ (P : Nat → Prop) (w : World), Rd P w x → V.Fit x.v → Calls prog 76 #[x.arg] w fun e w' => ∃ t' : VT, e = .returned t'.arg ∧ t'.v = x.v ∧ Rd (fun i => w.heap.size ≤ i) w' t' ∧ Below w.heap.size w w' := ih
  have ihh := qq ih'; rw [VT.v_eq] at hfit
  have hf3 : tks.length ≤ 1000000 ∧ tl.length ≤ 1000000 ∧ ∀ x ∈ tl, V.Fit x.v := by
   cases hfit with
   | mk h1 h2 h3 => exact ⟨h1, by rw [jf] at h2; exact h2, fun x hx => h3 _ (jv.2 ⟨x, hx, rfl⟩)⟩
  have hfh := qq hf3; have hRh := qq hR0; clear ih ih' hR hR0 hfit hf3 hn0 hn1 hk0 hk1 hmk hml; have hB1 := (qz w.heap.size w).alloc (qj _) (.cells #[.int .u8 tk, .int .u64 tn, .string ts, .slice tka tks.length tkc, .slice tla tl.length tlc] 56); have hB2 := hB1.alloc hB1.size (.cells #[.int .u8 0, .int .u64 0, .string ⟨#[]⟩, .slice none 0 0, .slice none 0 0] 56); have hB3 := hB2.alloc hB2.size (.cells #[.int .u8 tk, .int .u64 tn, .string ts, .slice none 0 0, .slice none 0 0] 56); have A3 := ((Blk.new w [.int .u8 tk, .int .u64 tn, .string ts, .slice tka tks.length tkc, .slice tla tl.length tlc] 56).alloc (.cells #[.int .u8 0, .int .u64 0, .string ⟨#[]⟩, .slice none 0 0, .slice none 0 0] 56)).alloc (.cells #[.int .u8 tk, .int .u64 tn, .string ts, .slice none 0 0, .slice none 0 0] 56); have C3 := (Blk.newK (w.alloc (.cells #[.int .u8 tk, .int .u64 tn, .string ts, .slice tka tks.length tkc, .slice tla tl.length tlc] 56)) [.int .u8 0, .int .u64 0, .string ⟨#[]⟩, .slice none 0 0, .slice none 0 0] 56 (w.heap.size + 1) (by simp)).alloc (.cells #[.int .u8 tk, .int .u64 tn, .string ts, .slice none 0 0, .slice none 0 0] 56); have X3 := Blk.newK ((w.alloc (.cells #[.int .u8 tk, .int .u64 tn, .string ts, .slice tka tks.length tkc, .slice tla tl.length tlc] 56)).alloc (.cells #[.int .u8 0, .int .u64 0, .string ⟨#[]⟩, .slice none 0 0, .slice none 0 0] 56)) [.int .u8 tk, .int .u64 tn, .string ts, .slice none 0 0, .slice none 0 0] 56 (w.heap.size + 1 + 1) (by simp); have hz3 := qq (show (((w.alloc (.cells #[.int .u8 tk, .int .u64 tn, .string ts, .slice tka tks.length tkc, .slice tla tl.length tlc] 56)).alloc (.cells #[.int .u8 0, .int .u64 0, .string ⟨#[]⟩, .slice none 0 0, .slice none 0 0] 56)).alloc (.cells #[.int .u8 tk, .int .u64 tn, .string ts, .slice none 0 0, .slice none 0 0] 56)).heap.size = w.heap.size + 3 by simp); have hKs := qq hK; have a0 := (Blk.new w [.int .u8 tk, .int .u64 tn, .string ts, .slice tka tks.length tkc, .slice tla tl.length tlc] 56).alloc (.cells #[.int .u8 0, .int .u64 0, .string ⟨#[]⟩, .slice none 0 0, .slice none 0 0] 56); obtain ⟨a00, a01, a02, a03, a04⟩ := a0.a5; obtain ⟨b00, b01, b02, b03, b04⟩ := A3.a5; obtain ⟨x00, x01, x02, x03, x04⟩ := X3.a5; clear a0; go_enter func76, ntmps76; go_upto_region 2 with fail; have hA3 := qq A3; have hC3 := qq C3; have hX3 := qq X3; have hB3h := qq hB3; clear hB1 hB2 hB3 A3 C3 X3 hK hL; generalize World.alloc (World.alloc (World.alloc w _) _) _ = W3 at *; go_wp2_with (at_builtin; refine aaj (base := W3.heap.size) rfl (.tmp 13) (.tmp 15) 53 9 rfl am3 ac7 ala _ ([] : List ByteArray) rfl Own.nil _ tks rfl (hKs.out.pure hB3h.out) (by have := hfh.out.1; unfold maxLen; simp; omega) (by have := hfh.out.1; simp; omega) (qj _) ?_; intro kv w4 hO4 hgr4 hfr4 hsh4; rw [List.nil_append] at hO4; obtain ⟨ka4, kc4, rfl⟩ := aap hO4; have hB4 := (qz W3.heap.size W3).grown hgr4 (qj _) (fun j e => by cases e); have X4 := hX3.out.pure hB4; have x4 := X4.at 3 rfl; have xf4 := X4.frozen 3)
  have hM := qq (show CpSt W3 (w.heap.size + 1 + 1) tk tn ts (w4.setCell ⟨w.heap.size + 1 + 1, 3, none⟩ (.slice ka4 tks.length kc4)) (.slice ka4 tks.length kc4) (.slice none 0 0) tks [] from
   ⟨X4.set 3 _, hO4.low _ _ _ (by have := hz3.out; omega), Own.nil, fun x hx => jp hx (by simp), (Upd.of_below hB4).trans (Upd.set (S := acu (w.heap.size + 1 + 1)) (p := ⟨w.heap.size + 1 + 1, 3, none⟩) rfl _) (fun i e _ => e), by have := hz3.out; omega⟩)
  clear a00 a01 a02 a03 a04 b00 b01 b02 b03 b04 x00 x01 x02 x03 x04 x4 xf4 X4 hB4 hO4 hgr4 hfr4 hsh4; go_loopw [4] (fun s4 wr => ∃ (k : Nat) (lv : Value) (L : List VT), k ≤ tl.length ∧ s4 = .int .i64 k ∧ Hid (CpSt W3 (w.heap.size + 1 + 1) tk tn ts wr (.slice ka4 tks.length kc4) lv tks L) ∧ Hid (L.length = k ∧ L.map VT.v = (tl.take k).map VT.v)) (fun s4 _ => tl.length - (intOf s4).toNat)
  case atStart => exact ⟨0, _, [], by omega, rfl, hM, qq ⟨rfl, by simp⟩⟩
  case round =>
   clear hM; obtain ⟨k, lv, L, hk, rfl, hMh, hlen⟩ := hrel; have hM := hMh.out; obtain ⟨la4, lc4, rfl⟩ := aap hM.lo; have hAr := hA3.out.upd hM.up (fun e => by unfold acu at e; omega); have hRr := (hRh.out.bel hB3h.out (qj _)).upd hM.up (fun b hb e => by unfold acu at e; omega); have a4 := hAr.at 4 rfl; have x4 := hM.x.at 4 rfl; by_cases hlt : k < tl.length
   ·have h1 : (k : Int) < (tl.length : Int) := by omega
    have hml : (tl.length : Int) ≤ 1000000 := by have := hfh.out.2.1; omega
    have hLr : Slc ac6 5 wr (.slice tla tl.length tlc) tl := hRr.lv; obtain ⟨g0, off, rfl⟩ := hLr.addrB hlt; have hRk := hRr.sub tl[k] (qy hlt); obtain ⟨xk, xn, xs, xka, xkl, xkc, xla, xll, xlc, xks, xl, hx, q0, q1, q2, q3, q4⟩ := ae4 hLr hlt hRk; have htk := qq (jx hlt); have hfk := hfh.out.2.2 tl[k] (qy hlt); have hi := fun (u : World) (hR : Rd (· < w.heap.size) u tl[k]) => ihh.out tl[k] (qy hlt) _ u hR hfk
    obtain ⟨xv, hxv⟩ := zz (tl[k].v); have hxvh := qq hxv; rw [hxv] at hi hfk
    have hNo := qq (show ∀ i, (Value.slice la4 L.length lc4).ownBlock = some i ∨ i = w.heap.size + 1 + 1 → ¬ i < w.heap.size + 1 from fun i e => by
     rcases e with e | e
     ·have := hM.lo.ge e; have := hz3.out; omega
     ·omega)
    have hall := qq (fun (u : World) (hu : Upd (fun i => (Value.slice la4 L.length lc4).ownBlock = some i ∨ i = w.heap.size + 1 + 1) wr u) => show Blk u w.heap.size [.int .u8 tk, .int .u64 tn, .string ts, .slice tka tks.length tkc, .slice (some ⟨g0, off, none⟩) tl.length tlc] ∧ Rd (· < w.heap.size) u (VT.mk tk tn ts (.slice tka tks.length tkc) (.slice (some ⟨g0, off, none⟩) tl.length tlc) tks tl) from
     ⟨hAr.upd hu (fun e => hNo.out _ e (by omega)), hRr.upd hu (fun b hb e => hNo.out _ e (by omega))⟩)
    have hcx := qq (fun (u : World) (hu : Upd (fun i => (Value.slice la4 L.length lc4).ownBlock = some i ∨ i = w.heap.size + 1 + 1) wr u) => show u.cell? ⟨g0, off + k * 5, none⟩ = some (.int .u8 xk) ∧ u.cell? ⟨g0, off + k * 5 + 1, none⟩ = some (.int .u64 xn) ∧ u.cell? ⟨g0, off + k * 5 + 2, none⟩ = some (.string xs) ∧ u.cell? ⟨g0, off + k * 5 + 3, none⟩ = some (.slice xka xkl xkc) ∧ u.cell? ⟨g0, off + k * 5 + 4, none⟩ = some (.slice xla xll xlc) by
     have h9 : Slc ac6 5 u (.slice (some ⟨g0, off, none⟩) tl.length tlc) tl := (hall.out u hu).2.lv; have h8 := aoo h9 hlt
     rw [hx] at h8; exact h8)
    have hrk := qq (fun (u : World) (hu : Upd (fun i => (Value.slice la4 L.length lc4).ownBlock = some i ∨ i = w.heap.size + 1 + 1) wr u) => show Calls prog 76 #[VT.arg (.mk xk xn xs (.slice xka xkl xkc) (.slice xla xll xlc) xks xl)] u fun e w' => ∃ t' : VT, e = .returned t'.arg ∧ t'.v = xv ∧ Rd (fun i => u.heap.size ≤ i) w' t' ∧ Below u.heap.size u w' by
     rw [← hx]; exact hi u ((hall.out u hu).2.sub tl[k] (qy hlt)))
    simp only [VT.arg_mk] at hrk; have hLl := qq (show L.length < 1000000 by have := hlen.out.1; have := hfh.out.2.1; omega); have hM0 := hM.pure (abn wr); have mx0 := hM0.x.at 4 rfl; clear hi hfk hRk hx hxv hLr hRr hMh hM; go_wp2_with fail; have hb := ((Upd.refl (fun i => (Value.slice la4 L.length lc4).ownBlock = some i ∨ i = w.heap.size + 1 + 1) wr).drew); refine wp_region_held_drew (S := fun u => Upd (fun i => (Value.slice la4 L.length lc4).ownBlock = some i ∨ i = w.heap.size + 1 + 1) wr u) (by kernel_rfl) hb (fun zg => ?_); refine tkH 0 zg ?_; refine tkH 2 zg ?_; refine tkF 3 zg ?_ (fun u hSw => (hall.out u hSw).1.at 4 rfl); refine tkH 4 zg ?_; refine tkH 5 zg ?_; refine tkF 6 zg ?_ (fun u hSw => hcx.out u hSw); refine wpAnyH_ready (rs := [1, 7]) (by kernel_rfl) (by simp) ?_; refine (AllReadyH.cons rfl (fun K hK => ?_) (AllReadyH.cons rfl (fun K hK => ?_) AllReadyH.nil))
    ·go_simp
     refine hK.out _ _ hb (fun zg => ?_); clear hK K; (try simp only [Act.put, lsT, lsZ, lsS]); refine aai 7 rfl (fun K hK => ?_); go_simp; go_at_call 76; refine (hrk.out _ hb).mono ?_; rintro e w1 ⟨t1, he, htv, htR, hB1⟩; have hM1 := hM0.pure hB1; have ht1 := hM0.tree htR; obtain ⟨uk, un, us, uka, ukc, ula, ulc, uks, ul, rfl, -⟩ := htR.open; rw [VT.arg_mk] at he; subst he; have htvh := qq htv; clear htv; have hb := hb.trans (Upd.of_below (S := fun _ => False) hB1) (fun _ e _ => e.elim); have mx1 := hM1.x.at 4 rfl; refine hK.out _ _ hb (fun zg => ?_); clear hK K; (try simp only [Act.put, lsT, lsZ, lsS]); refine aai 8 rfl (fun K hK => ?_); go_simp; have hM2 := hM1.pure ((qz w1.heap.size w1).alloc (qj _) (.cells #[.int .u8 uk, .int .u64 un, .string us, .slice uka uks.length ukc, .slice ula ul.length ulc] 56)); have bs := Blk.new w1 [.int .u8 uk, .int .u64 un, .string us, .slice uka uks.length ukc, .slice ula ul.length ulc] 56; have ht2 := ht1.pure ((qz w1.heap.size w1).alloc (qj _) (.cells #[.int .u8 uk, .int .u64 un, .string us, .slice uka uks.length ukc, .slice ula ul.length ulc] 56)); have hb := hb.trans (Upd.of_below (S := fun _ => False) ((qz w1.heap.size w1).alloc (qj _) (.cells #[.int .u8 uk, .int .u64 un, .string us, .slice uka uks.length ukc, .slice ula ul.length ulc] 56))) (fun _ e _ => e.elim); have mx2 := hM2.x.at 4 rfl; refine hK.out _ _ hb (fun zg => ?_); clear hK K; (try simp only [Act.put, lsT, lsZ, lsS]); refine aai 9 rfl (fun K hK => ?_); refine abe rfl (aaq (base := W3.heap.size) rfl (.tmp 26) (.tmp 33) 54 56 rfl aej aak _ L rfl hM2.lo _ 1 (.mk uk un us (.slice uka uks.length ukc) (.slice ula ul.length ulc) uks ul) (by simp [ac6, VT.k, VT.n, VT.s, VT.kv, VT.lv, Value.oneCell']) rfl (fun j u hu => (bs.cell j).trans hu) (by have := hLl.out; omega) (by have := hLl.out; unfold maxLen; omega) hM2.up.size ?_); intro g cap w3 hO3 hgr3 hf3; refine ⟨rfl, ?_⟩; obtain ⟨hx3, hM5⟩ := hM2.app hO3 hgr3 hf3 ht2; have my := hx3.at 4 rfl; have mz := hx3.frozen 4; have hb := hb.trans (Upd.grown (S := fun i => (Value.slice la4 L.length lc4).ownBlock = some i) hgr3 (fun i e => e)) (fun i e _ => Or.inl e); refine hK.out _ _ hb (fun zg => ?_); clear hK K; (try simp only [Act.put, lsT, lsZ, lsS]); refine tkH 10 zg ?_; refine aai 11 rfl (fun K hK => ?_); go_simp; have hb := hb.trans (Upd.set (S := fun i => i = w.heap.size + 1 + 1) (p := ⟨w.heap.size + 1 + 1, 4, none⟩) rfl (.slice (some ⟨g, 0, none⟩) (L.length + 1) cap)) (fun i e _ => Or.inr e); refine hK.out _ _ hb (fun zg => ?_); clear hK K; (try simp only [Act.put, lsT, lsZ, lsS]); refine wpAnyH_done (by kernel_rfl) ?_ _; go_wp2; go_roundw
     case rel => exact ⟨k + 1, _, _, by omega, by go_num, qq hM5, qq ⟨by have := hlen.out.1; simp; omega, by rw [htk.out, List.map_append, List.map_append, hlen.out.2, List.map_cons, List.map_cons, htvh.out, hxvh.out]⟩⟩
     case measure => simp [intOf]; omega
    ·go_simp
     go_at_call 76; refine (hrk.out _ hb).mono ?_; rintro e w1 ⟨t1, he, htv, htR, hB1⟩; have hM1 := hM0.pure hB1; have ht1 := hM0.tree htR; obtain ⟨uk, un, us, uka, ukc, ula, ulc, uks, ul, rfl, -⟩ := htR.open; rw [VT.arg_mk] at he; subst he; have htvh := qq htv; clear htv; have hb := hb.trans (Upd.of_below (S := fun _ => False) hB1) (fun _ e _ => e.elim); have mx1 := hM1.x.at 4 rfl; refine hK.out _ _ hb (fun zg => ?_); clear hK K; (try simp only [Act.put, lsT, lsZ, lsS]); refine wpAnyH_ready (rs := [1, 8]) (by kernel_rfl) (by simp) ?_; refine (AllReadyH.cons rfl (fun K hK => ?_) (AllReadyH.cons rfl (fun K hK => ?_) AllReadyH.nil))
     ·go_simp
      refine hK.out _ _ hb (fun zg => ?_); clear hK K; (try simp only [Act.put, lsT, lsZ, lsS]); refine aai 8 rfl (fun K hK => ?_); go_simp; have hM2 := hM1.pure ((qz w1.heap.size w1).alloc (qj _) (.cells #[.int .u8 uk, .int .u64 un, .string us, .slice uka uks.length ukc, .slice ula ul.length ulc] 56)); have bs := Blk.new w1 [.int .u8 uk, .int .u64 un, .string us, .slice uka uks.length ukc, .slice ula ul.length ulc] 56; have ht2 := ht1.pure ((qz w1.heap.size w1).alloc (qj _) (.cells #[.int .u8 uk, .int .u64 un, .string us, .slice uka uks.length ukc, .slice ula ul.length ulc] 56)); have hb := hb.trans (Upd.of_below (S := fun _ => False) ((qz w1.heap.size w1).alloc (qj _) (.cells #[.int .u8 uk, .int .u64 un, .string us, .slice uka uks.length ukc, .slice ula ul.length ulc] 56))) (fun _ e _ => e.elim); have mx2 := hM2.x.at 4 rfl; refine hK.out _ _ hb (fun zg => ?_); clear hK K; (try simp only [Act.put, lsT, lsZ, lsS]); refine aai 9 rfl (fun K hK => ?_); refine abe rfl (aaq (base := W3.heap.size) rfl (.tmp 26) (.tmp 33) 54 56 rfl aej aak _ L rfl hM2.lo _ 1 (.mk uk un us (.slice uka uks.length ukc) (.slice ula ul.length ulc) uks ul) (by simp [ac6, VT.k, VT.n, VT.s, VT.kv, VT.lv, Value.oneCell']) rfl (fun j u hu => (bs.cell j).trans hu) (by have := hLl.out; omega) (by have := hLl.out; unfold maxLen; omega) hM2.up.size ?_); intro g cap w3 hO3 hgr3 hf3; refine ⟨rfl, ?_⟩; obtain ⟨hx3, hM5⟩ := hM2.app hO3 hgr3 hf3 ht2; have my := hx3.at 4 rfl; have mz := hx3.frozen 4; have hb := hb.trans (Upd.grown (S := fun i => (Value.slice la4 L.length lc4).ownBlock = some i) hgr3 (fun i e => e)) (fun i e _ => Or.inl e); refine hK.out _ _ hb (fun zg => ?_); clear hK K; (try simp only [Act.put, lsT, lsZ, lsS]); refine tkH 10 zg ?_; refine aai 11 rfl (fun K hK => ?_); go_simp; have hb := hb.trans (Upd.set (S := fun i => i = w.heap.size + 1 + 1) (p := ⟨w.heap.size + 1 + 1, 4, none⟩) rfl (.slice (some ⟨g, 0, none⟩) (L.length + 1) cap)) (fun i e _ => Or.inr e); refine hK.out _ _ hb (fun zg => ?_); clear hK K; (try simp only [Act.put, lsT, lsZ, lsS]); refine wpAnyH_done (by kernel_rfl) ?_ _; go_wp2; go_roundw
      case rel => exact ⟨k + 1, _, _, by omega, by go_num, qq hM5, qq ⟨by have := hlen.out.1; simp; omega, by rw [htk.out, List.map_append, List.map_append, hlen.out.2, List.map_cons, List.map_cons, htvh.out, hxvh.out]⟩⟩
      case measure => simp [intOf]; omega
     ·go_simp
      have hM2 := hM1.pure ((qz w1.heap.size w1).alloc (qj _) (.cells #[.int .u8 uk, .int .u64 un, .string us, .slice uka uks.length ukc, .slice ula ul.length ulc] 56)); have bs := Blk.new w1 [.int .u8 uk, .int .u64 un, .string us, .slice uka uks.length ukc, .slice ula ul.length ulc] 56; have ht2 := ht1.pure ((qz w1.heap.size w1).alloc (qj _) (.cells #[.int .u8 uk, .int .u64 un, .string us, .slice uka uks.length ukc, .slice ula ul.length ulc] 56)); have hb := hb.trans (Upd.of_below (S := fun _ => False) ((qz w1.heap.size w1).alloc (qj _) (.cells #[.int .u8 uk, .int .u64 un, .string us, .slice uka uks.length ukc, .slice ula ul.length ulc] 56))) (fun _ e _ => e.elim); have mx2 := hM2.x.at 4 rfl; refine hK.out _ _ hb (fun zg => ?_); clear hK K; (try simp only [Act.put, lsT, lsZ, lsS]); refine aai 1 rfl (fun K hK => ?_); go_simp; refine hK.out _ _ hb (fun zg => ?_); clear hK K; (try simp only [Act.put, lsT, lsZ, lsS]); refine aai 9 rfl (fun K hK => ?_); refine abe rfl (aaq (base := W3.heap.size) rfl (.tmp 26) (.tmp 33) 54 56 rfl aej aak _ L rfl hM2.lo _ 1 (.mk uk un us (.slice uka uks.length ukc) (.slice ula ul.length ulc) uks ul) (by simp [ac6, VT.k, VT.n, VT.s, VT.kv, VT.lv, Value.oneCell']) rfl (fun j u hu => (bs.cell j).trans hu) (by have := hLl.out; omega) (by have := hLl.out; unfold maxLen; omega) hM2.up.size ?_); intro g cap w3 hO3 hgr3 hf3; refine ⟨rfl, ?_⟩; obtain ⟨hx3, hM5⟩ := hM2.app hO3 hgr3 hf3 ht2; have my := hx3.at 4 rfl; have mz := hx3.frozen 4; have hb := hb.trans (Upd.grown (S := fun i => (Value.slice la4 L.length lc4).ownBlock = some i) hgr3 (fun i e => e)) (fun i e _ => Or.inl e); refine hK.out _ _ hb (fun zg => ?_); clear hK K; (try simp only [Act.put, lsT, lsZ, lsS]); refine tkH 10 zg ?_; refine aai 11 rfl (fun K hK => ?_); go_simp; have hb := hb.trans (Upd.set (S := fun i => i = w.heap.size + 1 + 1) (p := ⟨w.heap.size + 1 + 1, 4, none⟩) rfl (.slice (some ⟨g, 0, none⟩) (L.length + 1) cap)) (fun i e _ => Or.inr e); refine hK.out _ _ hb (fun zg => ?_); clear hK K; (try simp only [Act.put, lsT, lsZ, lsS]); refine wpAnyH_done (by kernel_rfl) ?_ _; go_wp2; go_roundw
      case rel => exact ⟨k + 1, _, _, by omega, by go_num, qq hM5, qq ⟨by have := hlen.out.1; simp; omega, by rw [htk.out, List.map_append, List.map_append, hlen.out.2, List.map_cons, List.map_cons, htvh.out, hxvh.out]⟩⟩
      case measure => simp [intOf]; omega
   ·obtain rfl : k = tl.length := by omega
    have c := hC3.out.upd hM.up (fun e => by unfold acu at e; omega); have xx := hM.x; obtain ⟨c0, c1, c2, c3, c4⟩ := c.a5; obtain ⟨z0, z1, z2, z3, z4⟩ := c.f5; obtain ⟨y0, y1, y2, y3, y4⟩ := xx.a5; have hMz := qq hM; have ch := qq c; clear c; clear x4 hMh hM hAr hRr xx hlt hk; go_wp2; have aF := ch.out.fresh5 (.int .u8 tk) (.int .u64 tn) (.string ts) (.slice ka4 tks.length kc4) (.slice la4 L.length lc4); obtain ⟨k0, k1, k2, k3, k4⟩ := aF.a5; refine bodyPost_ret (by simp [results, Tryz.results76, go_sem, k0, k1, k2, k3, k4]; rfl) rfl ?_; have hu5 := Upd.at5 wr (w.heap.size + 1) (.int .u8 tk) (.int .u64 tn) (.string ts) (.slice ka4 tks.length kc4) (.slice la4 L.length lc4); refine ⟨.mk tk tn ts (.slice ka4 tks.length kc4) (.slice la4 L.length lc4) tks L, rfl, ?_, ?_, ?_⟩
    ·rw [VT.v_eq, VT.v_eq]
     show V.mk tk tn ts tks (L.map VT.v) = V.mk tk tn ts tks (tl.map VT.v)
     rw [hlen.out.2, js]
    ·exact (hMz.out.whole hu5 (fun i e => by have := hz3.out; omega) hnk.out.1 hnk.out.2.1 hnk.out.2.2.1 hnk.out.2.2.2).weaken (fun i _ hi => by have := hz3.out; omega)
    ·exact (hB3h.out.trans (hMz.out.up.below hB3h.out.size (fun i e => by unfold acu at e; omega))).trans (hu5.below (by have := hMz.out.up.size; have := hB3h.out.size; omega) (fun i e => by omega))
theorem ath (k m k2 m2 : ByteArray) (d r d2 r2 : Bool) (x y : VT) : (PT.mk k d r m x).p = (PT.mk k2 d2 r2 m2 y).p ↔ k = k2 ∧ d = d2 ∧ r = r2 ∧ m = m2 ∧ x.v = y.v := by
 show Pr.mk _ _ _ _ _ = Pr.mk _ _ _ _ _ ↔ _
 exact Iff.of_eq (Pr.mk.injEq ..)
theorem awd (b : List UInt8) : (part b).length = 4 + b.length := by unfold part; rw [jz, aao]
def amt (B : Nat) (w : World) (Q : Prop) (e : Ending) (w' : World) : Prop := (∃ b : Bool, e = .returned (.bool b) ∧ (b = true ↔ Q)) ∧ Below B w w'
theorem adm {B : Nat} {w w' : World} {Q : Prop} (h : ¬ Q) (hB : Below B w w') : amt B w Q (.returned (.bool false)) w' := ⟨⟨false, rfl, ⟨fun e => jp e (by simp), fun e => jp e h⟩⟩, hB⟩
def arc (B : Nat) (w : World) (Q : Prop) (e : Ending) (w' : World) : Prop := (∃ b : Bool, e = .returned (.bool b) ∧ (b = true → Q)) ∧ Below B w w'
theorem abi {B : Nat} {w w' : World} {Q : Prop} (hB : Below B w w') : arc B w Q (.returned (.bool false)) w' := ⟨⟨false, rfl, fun e => jp e (by simp)⟩, hB⟩
theorem ama {B : Nat} {w w' : World} {Q : Prop} {b : Bool} (h : b = true → Q) (hB : Below B w w') : arc B w Q (.returned (.bool b)) w' := ⟨⟨b, rfl, h⟩, hB⟩
theorem acn {B : Nat} {w w' : World} {Q : Prop} {b : Bool} (h : b = true ↔ Q) (hB : Below B w w') : amt B w Q (.returned (.bool b)) w' := ⟨⟨b, rfl, h⟩, hB⟩
theorem ael {P : Prop} (h : P := by
 rw [show (w.alloc (.cells #[.string key, .bool dur, .bool red, .string mid, .int .u8 tk, .int .u64 tn, .string ts, .slice tka tks.length tkc, .slice tla tl.length tlc] 58)).heap.size = w.heap.size + 1 by simp] at b1
 obtain ⟨c0, c1, c2, c3, c4, c5, c6, c7, c8⟩ := b0.a9
 obtain ⟨d0, d1, d2, d3, d4, d5, d6, d7, d8⟩ := b1.a9
 go_enter func69, ntmps69
 go_wp2
 go_ret
 exact adm (fun h => hno.out h.1) hB1) : P := h
theorem ald (t u : PT) (P P2 : Nat → Prop) (w : World) (hR : Rd P w t.app) (hR2 : Rd P2 w u.app) : Calls prog 69 #[t.arg, u.arg] w (amt w.heap.size w (t.p = u.p)) := by
 obtain ⟨key, dur, red, mid, tv⟩ := t
 have hR : Rd _ _ tv := hR
 obtain ⟨tk, tn, ts, tka, tkc, tla, tlc, tks, tl, rfl, -⟩ := hR.open
 obtain ⟨key2, dur2, red2, mid2, uv⟩ := u
 have hR2 : Rd _ _ uv := hR2
 obtain ⟨uk, un, us, uka, ukc, ula, ulc, uks, ul, rfl, -⟩ := hR2.open
 simp only [PT.arg_mk, ath]
 by_cases e : key = key2
 rotate_left 1
 ·have h1 : ¬ key.toList = key2.toList := acd e
  have h2 : (key.toList == key2.toList) = false := ju.2 h1; have h3 : decide (key.toList = key2.toList) = false := qg h1; have hno := qq e; clear e; have hB0 := ((qz w.heap.size w).alloc (qj _) (.cells #[.string key, .bool dur, .bool red, .string mid, .int .u8 tk, .int .u64 tn, .string ts, .slice tka tks.length tkc, .slice tla tl.length tlc] 58)); have hB1 := hB0.alloc hB0.size (.cells #[.string key2, .bool dur2, .bool red2, .string mid2, .int .u8 uk, .int .u64 un, .string us, .slice uka uks.length ukc, .slice ula ul.length ulc] 58); have b0 := (Blk.new w [.string key, .bool dur, .bool red, .string mid, .int .u8 tk, .int .u64 tn, .string ts, .slice tka tks.length tkc, .slice tla tl.length tlc] 58).alloc (.cells #[.string key2, .bool dur2, .bool red2, .string mid2, .int .u8 uk, .int .u64 un, .string us, .slice uka uks.length ukc, .slice ula ul.length ulc] 58); have b1 := Blk.new (w.alloc (.cells #[.string key, .bool dur, .bool red, .string mid, .int .u8 tk, .int .u64 tn, .string ts, .slice tka tks.length tkc, .slice tla tl.length tlc] 58)) [.string key2, .bool dur2, .bool red2, .string mid2, .int .u8 uk, .int .u64 un, .string us, .slice uka uks.length ukc, .slice ula ul.length ulc] 58; exact ael
 subst e
 by_cases e : dur = dur2
 rotate_left 1
 ·have h2 : (dur == dur2) = false := ju.2 e
  have h3 : decide (dur = dur2) = false := qg e; have hno := qq e; clear e; have hB0 := ((qz w.heap.size w).alloc (qj _) (.cells #[.string key, .bool dur, .bool red, .string mid, .int .u8 tk, .int .u64 tn, .string ts, .slice tka tks.length tkc, .slice tla tl.length tlc] 58)); have hB1 := hB0.alloc hB0.size (.cells #[.string key, .bool dur2, .bool red2, .string mid2, .int .u8 uk, .int .u64 un, .string us, .slice uka uks.length ukc, .slice ula ul.length ulc] 58); have b0 := (Blk.new w [.string key, .bool dur, .bool red, .string mid, .int .u8 tk, .int .u64 tn, .string ts, .slice tka tks.length tkc, .slice tla tl.length tlc] 58).alloc (.cells #[.string key, .bool dur2, .bool red2, .string mid2, .int .u8 uk, .int .u64 un, .string us, .slice uka uks.length ukc, .slice ula ul.length ulc] 58); have b1 := Blk.new (w.alloc (.cells #[.string key, .bool dur, .bool red, .string mid, .int .u8 tk, .int .u64 tn, .string ts, .slice tka tks.length tkc, .slice tla tl.length tlc] 58)) [.string key, .bool dur2, .bool red2, .string mid2, .int .u8 uk, .int .u64 un, .string us, .slice uka uks.length ukc, .slice ula ul.length ulc] 58; exact ael
 subst e
 by_cases e : red = red2
 rotate_left 1
 ·have h2 : (red == red2) = false := ju.2 e
  have h3 : decide (red = red2) = false := qg e; have hno := qq e; clear e; have hB0 := ((qz w.heap.size w).alloc (qj _) (.cells #[.string key, .bool dur, .bool red, .string mid, .int .u8 tk, .int .u64 tn, .string ts, .slice tka tks.length tkc, .slice tla tl.length tlc] 58)); have hB1 := hB0.alloc hB0.size (.cells #[.string key, .bool dur, .bool red2, .string mid2, .int .u8 uk, .int .u64 un, .string us, .slice uka uks.length ukc, .slice ula ul.length ulc] 58); have b0 := (Blk.new w [.string key, .bool dur, .bool red, .string mid, .int .u8 tk, .int .u64 tn, .string ts, .slice tka tks.length tkc, .slice tla tl.length tlc] 58).alloc (.cells #[.string key, .bool dur, .bool red2, .string mid2, .int .u8 uk, .int .u64 un, .string us, .slice uka uks.length ukc, .slice ula ul.length ulc] 58); have b1 := Blk.new (w.alloc (.cells #[.string key, .bool dur, .bool red, .string mid, .int .u8 tk, .int .u64 tn, .string ts, .slice tka tks.length tkc, .slice tla tl.length tlc] 58)) [.string key, .bool dur, .bool red2, .string mid2, .int .u8 uk, .int .u64 un, .string us, .slice uka uks.length ukc, .slice ula ul.length ulc] 58; exact ael
 subst e
 by_cases e : mid = mid2
 rotate_left 1
 ·have h1 : ¬ mid.toList = mid2.toList := acd e
  have h2 : (mid.toList == mid2.toList) = false := ju.2 h1; have h3 : decide (mid.toList = mid2.toList) = false := qg h1; have hno := qq e; clear e; have hB0 := ((qz w.heap.size w).alloc (qj _) (.cells #[.string key, .bool dur, .bool red, .string mid, .int .u8 tk, .int .u64 tn, .string ts, .slice tka tks.length tkc, .slice tla tl.length tlc] 58)); have hB1 := hB0.alloc hB0.size (.cells #[.string key, .bool dur, .bool red, .string mid2, .int .u8 uk, .int .u64 un, .string us, .slice uka uks.length ukc, .slice ula ul.length ulc] 58); have b0 := (Blk.new w [.string key, .bool dur, .bool red, .string mid, .int .u8 tk, .int .u64 tn, .string ts, .slice tka tks.length tkc, .slice tla tl.length tlc] 58).alloc (.cells #[.string key, .bool dur, .bool red, .string mid2, .int .u8 uk, .int .u64 un, .string us, .slice uka uks.length ukc, .slice ula ul.length ulc] 58); have b1 := Blk.new (w.alloc (.cells #[.string key, .bool dur, .bool red, .string mid, .int .u8 tk, .int .u64 tn, .string ts, .slice tka tks.length tkc, .slice tla tl.length tlc] 58)) [.string key, .bool dur, .bool red, .string mid2, .int .u8 uk, .int .u64 un, .string us, .slice uka uks.length ukc, .slice ula ul.length ulc] 58; exact ael
 subst e
 have hB0 := ((qz w.heap.size w).alloc (qj _) (.cells #[.string key, .bool dur, .bool red, .string mid, .int .u8 tk, .int .u64 tn, .string ts, .slice tka tks.length tkc, .slice tla tl.length tlc] 58))
 have hB1 := hB0.alloc hB0.size (.cells #[.string key, .bool dur, .bool red, .string mid, .int .u8 uk, .int .u64 un, .string us, .slice uka uks.length ukc, .slice ula ul.length ulc] 58)
 have b0 := (Blk.new w [.string key, .bool dur, .bool red, .string mid, .int .u8 tk, .int .u64 tn, .string ts, .slice tka tks.length tkc, .slice tla tl.length tlc] 58).alloc (.cells #[.string key, .bool dur, .bool red, .string mid, .int .u8 uk, .int .u64 un, .string us, .slice uka uks.length ukc, .slice ula ul.length ulc] 58)
 have b1 := Blk.new (w.alloc (.cells #[.string key, .bool dur, .bool red, .string mid, .int .u8 tk, .int .u64 tn, .string ts, .slice tka tks.length tkc, .slice tla tl.length tlc] 58)) [.string key, .bool dur, .bool red, .string mid, .int .u8 uk, .int .u64 un, .string us, .slice uka uks.length ukc, .slice ula ul.length ulc] 58
 rw [show (w.alloc (.cells #[.string key, .bool dur, .bool red, .string mid, .int .u8 tk, .int .u64 tn, .string ts, .slice tka tks.length tkc, .slice tla tl.length tlc] 58)).heap.size = w.heap.size + 1 by simp] at b1
 obtain ⟨c0, c1, c2, c3, c4, c5, c6, c7, c8⟩ := b0.a9
 obtain ⟨d0, d1, d2, d3, d4, d5, d6, d7, d8⟩ := b1.a9
 have R1 := hR.pure hB1; have S1 := hR2.pure hB1
 go_enter func69, ntmps69
 go_wp2_with (go_at_call 124; refine (ajc (VT.mk tk tn ts (.slice tka tks.length tkc) (.slice tla tl.length tlc) tks tl) (VT.mk uk un us (.slice uka uks.length ukc) (.slice ula ul.length ulc) uks ul) _ _ _ R1 S1).mono ?_; rintro e w3 ⟨⟨b, rfl, hb⟩, hB3⟩; have hbh := qq hb; clear hb; have hBz := hB1.trans (hB3.mono hB1.size))
 go_ret
 exact acn (by simpa using hbh.out) hBz
theorem aje (t : PT) (P : Nat → Prop) (w : World) (hR : Rd P w t.app) : Calls prog 22 #[t.arg] w (arc w.heap.size w (t.key.size ≤ 1000 ∧ t.mid.size ≤ 1000 ∧ V.Fit t.app.v)) := by
 obtain ⟨key, dur, red, mid, tv⟩ := t
 have hR : Rd _ _ tv := hR
 obtain ⟨tk, tn, ts, tka, tkc, tla, tlc, tks, tl, rfl, -⟩ := hR.open
 rw [PT.arg_mk]
 have hB1 := (qz w.heap.size w).alloc (qj _) (.cells #[.string key, .bool dur, .bool red, .string mid, .int .u8 tk, .int .u64 tn, .string ts, .slice tka tks.length tkc, .slice tla tl.length tlc] 58)
 have A1 := Blk.new w [.string key, .bool dur, .bool red, .string mid, .int .u8 tk, .int .u64 tn, .string ts, .slice tka tks.length tkc, .slice tla tl.length tlc] 58
 have R1 := hR.pure hB1
 obtain ⟨a0, a1, a2, a3, a4, a5, a6, a7, a8⟩ := A1.a9
 have s1 := aq9 _ _ _ R1
 rw [VT.arg_mk] at s1
 have s1h := qq s1
 clear s1
 go_enter func22, ntmps22
 by_cases h1 : key.size ≤ 1000
 rotate_left 1
 ·have h1d : decide ((key.size : Int) ≤ 1000) = false := qg (by omega)
  clear h1; go_wp2; go_ret; exact abi hB1
 have h1d : decide ((key.size : Int) ≤ 1000) = true := qp (by omega)
 have h1h := qq h1
 clear h1
 by_cases h1 : mid.size ≤ 1000
 rotate_left 1
 ·have h2d : decide ((mid.size : Int) ≤ 1000) = false := qg (by omega)
  clear h1; go_wp2; go_ret; exact abi hB1
 have h2d : decide ((mid.size : Int) ≤ 1000) = true := qp (by omega)
 have h2h := qq h1
 clear h1
 go_wp2_with (go_at_call 74; refine (s1h.out).mono ?_; rintro e w2 ⟨⟨sb, rfl, hsm⟩, hB2⟩; have hsmh := qq hsm; clear hsm; have hB12 := hB1.trans (hB2.mono hB1.size))
 go_ret
 exact ama (fun h => ⟨h1h.out, h2h.out, atf (hsmh.out h)⟩) hB12
def bcj (w : World) (B : Nat) (v0 v1 v2 v3 v4 v5 v6 v7 v8 : Value) : World := ((((((((w.setCell ⟨B, 0, none⟩ v0).setCell ⟨B, 1, none⟩ v1).setCell ⟨B, 2, none⟩ v2).setCell ⟨B, 3, none⟩ v3).setCell ⟨B, 4, none⟩ v4).setCell ⟨B, 5, none⟩ v5).setCell ⟨B, 6, none⟩ v6).setCell ⟨B, 7, none⟩ v7).setCell ⟨B, 8, none⟩ v8
theorem aas (w : World) (B i : Nat) (v : Value) {S : Nat → Prop} {w0 : World} (h : Upd S w0 w) (hS : S B) : Upd S w0 (w.setCell ⟨B, i, none⟩ v) := h.trans (Upd.set (S := fun k => k = B) rfl v) (fun k e _ => by subst e; exact hS)
theorem Upd.at9 (w : World) (B : Nat) (v0 v1 v2 v3 v4 v5 v6 v7 v8 : Value) : Upd (fun k => k = B) w (bcj w B v0 v1 v2 v3 v4 v5 v6 v7 v8) :=
 aas _ B _ _ (aas _ B _ _ (aas _ B _ _ (aas _ B _ _ (aas _ B _ _ (aas _ B _ _ (aas _ B _ _ (aas _ B _ _ (aas _ B _ _ (Upd.refl _ w) rfl) rfl) rfl) rfl) rfl) rfl) rfl) rfl) rfl
theorem Blk.fresh9 {w : World} {B : Nat} {c0 c1 c2 c3 c4 c5 c6 c7 c8 : Value} (h : Blk w B [c0, c1, c2, c3, c4, c5, c6, c7, c8]) (v0 v1 v2 v3 v4 v5 v6 v7 v8 : Value) : Blk (bcj w B v0 v1 v2 v3 v4 v5 v6 v7 v8) B [v0, v1, v2, v3, v4, v5, v6, v7, v8] :=
 ((((((((h.set 0 v0).set 1 v1).set 2 v2).set 3 v3).set 4 v4).set 5 v5).set 6 v6).set 7 v7).set 8 v8
def ap8 (w : World) (B : Nat) (v4 v5 v6 v7 v8 : Value) : World := ((((w.setCell ⟨B, 4, none⟩ v4).setCell ⟨B, 5, none⟩ v5).setCell ⟨B, 6, none⟩ v6).setCell ⟨B, 7, none⟩ v7).setCell ⟨B, 8, none⟩ v8
theorem Upd.app9 (w : World) (B : Nat) (v4 v5 v6 v7 v8 : Value) : Upd (fun k => k = B) w (ap8 w B v4 v5 v6 v7 v8) :=
 aas _ B _ _ (aas _ B _ _ (aas _ B _ _ (aas _ B _ _ (aas _ B _ _ (Upd.refl _ w) rfl) rfl) rfl) rfl) rfl
theorem Blk.app9 {w : World} {B : Nat} {c0 c1 c2 c3 c4 c5 c6 c7 c8 : Value} (h : Blk w B [c0, c1, c2, c3, c4, c5, c6, c7, c8]) (v4 v5 v6 v7 v8 : Value) : Blk (ap8 w B v4 v5 v6 v7 v8) B [c0, c1, c2, c3, v4, v5, v6, v7, v8] :=
 ((((h.set 4 v4).set 5 v5).set 6 v6).set 7 v7).set 8 v8
theorem ale (t : PT) (P : Nat → Prop) (w : World) (hR : Rd P w t.app) (hF : V.Fit t.app.v) : Calls prog 25 #[t.arg] w fun e w' => ∃ t' : PT, e = .returned t'.arg ∧ t'.p = t.p ∧ Rd (fun i => w.heap.size ≤ i) w' t'.app ∧ Below w.heap.size w w' := by
 obtain ⟨key, dur, red, mid, tv⟩ := t
 have hR : Rd _ _ tv := hR
 obtain ⟨tk, tn, ts, tka, tkc, tla, tlc, tks, tl, rfl, -⟩ := hR.open
 rw [PT.arg_mk]
 have hB0 := (qz w.heap.size w).alloc (qj _) (.cells #[.string key, .bool dur, .bool red, .string mid, .int .u8 tk, .int .u64 tn, .string ts, .slice tka tks.length tkc, .slice tla tl.length tlc] 58)
 have hB1 := hB0.alloc hB0.size (.cells #[.string ⟨#[]⟩, .bool false, .bool false, .string ⟨#[]⟩, .int .u8 0, .int .u64 0, .string ⟨#[]⟩, .slice none 0 0, .slice none 0 0] 58)
 have A1 := (Blk.new w [.string key, .bool dur, .bool red, .string mid, .int .u8 tk, .int .u64 tn, .string ts, .slice tka tks.length tkc, .slice tla tl.length tlc] 58).alloc (.cells #[.string ⟨#[]⟩, .bool false, .bool false, .string ⟨#[]⟩, .int .u8 0, .int .u64 0, .string ⟨#[]⟩, .slice none 0 0, .slice none 0 0] 58)
 have Z1 := Blk.new (w.alloc (.cells #[.string key, .bool dur, .bool red, .string mid, .int .u8 tk, .int .u64 tn, .string ts, .slice tka tks.length tkc, .slice tla tl.length tlc] 58)) [.string ⟨#[]⟩, .bool false, .bool false, .string ⟨#[]⟩, .int .u8 0, .int .u64 0, .string ⟨#[]⟩, .slice none 0 0, .slice none 0 0] 58
 rw [show (w.alloc (.cells #[.string key, .bool dur, .bool red, .string mid, .int .u8 tk, .int .u64 tn, .string ts, .slice tka tks.length tkc, .slice tla tl.length tlc] 58)).heap.size = w.heap.size + 1 by simp] at Z1
 have R1 := hR.pure hB1
 have hFh := qq hF
 obtain ⟨a0, a1, a2, a3, a4, a5, a6, a7, a8⟩ := A1.a9; have zi := ajd
 have hsz := qq (show ((w.alloc (.cells #[.string key, .bool dur, .bool red, .string mid, .int .u8 tk, .int .u64 tn, .string ts, .slice tka tks.length tkc, .slice tla tl.length tlc] 58)).alloc (.cells #[.string ⟨#[]⟩, .bool false, .bool false, .string ⟨#[]⟩, .int .u8 0, .int .u64 0, .string ⟨#[]⟩, .slice none 0 0, .slice none 0 0] 58)).heap.size = w.heap.size + 2 by simp)
 clear hF
 go_enter func25, ntmps25
 go_upto_region 2 with (go_at_call 76; refine (atg _ _ _ R1 hFh.out).mono ?_; rintro e w2 ⟨t2, he, htv, htR, hB2⟩; obtain ⟨uk, un, us, uka, ukc, ula, ulc, uks, ul, rfl, -⟩ := htR.open; rw [VT.arg_mk] at he; subst he; have htvh := qq htv; clear htv; have A2 := A1.pure hB2; have Z2 := Z1.pure hB2; have hT2 := hB1.trans (hB2.mono hB1.size); clear a0 a1 a2 a3 a4 a5 a6 a7 a8; obtain ⟨b0, b1, b2, b3, b4, b5, b6, b7, b8⟩ := A2.a9; have y4 := A2.frozen 4; have y5 := A2.frozen 5; have y6 := A2.frozen 6; have y7 := A2.frozen 7; have y8 := A2.frozen 8)
 have hu := Upd.app9 w2 w.heap.size (.int .u8 uk) (.int .u64 un) (.string us) (.slice uka uks.length ukc) (.slice ula ul.length ulc)
 have A3 := A2.app9 (.int .u8 uk) (.int .u64 un) (.string us) (.slice uka uks.length ukc) (.slice ula ul.length ulc)
 have Z3 := Z2.upd hu (by omega)
 have hs2 := qq hT2.size
 have Q3 := htR.upd hu (fun b hb e => by have h1 := hb; rw [hsz.out] at h1; omega)
 unfold ap8 at hu A3 Z3 Q3
 generalize World.setCell (World.setCell (World.setCell (World.setCell (World.setCell w2 _ _) _ _) _ _) _ _) _ _ = W3 at *
 clear b0 b1 b2 b3 b4 b5 b6 b7 b8 y4 y5 y6 y7 y8
 obtain ⟨c0, c1, c2, c3, c4, c5, c6, c7, c8⟩ := A3.a9; obtain ⟨z0, z1, z2, z3, z4, z5, z6, z7, z8⟩ := Z3.a9; obtain ⟨y0, y1, y2, y3, y4, y5, y6, y7, y8⟩ := Z3.f9
 go_wp2
 have hv := Upd.at9 W3 (w.heap.size + 1) (.string key) (.bool dur) (.bool red) (.string mid) (.int .u8 uk) (.int .u64 un) (.string us) (.slice uka uks.length ukc) (.slice ula ul.length ulc)
 have Z4 := Z3.fresh9 (.string key) (.bool dur) (.bool red) (.string mid) (.int .u8 uk) (.int .u64 un) (.string us) (.slice uka uks.length ukc) (.slice ula ul.length ulc)
 have Q4 := Q3.upd hv (fun b hb e => by have h1 := hb; rw [hsz.out] at h1; omega)
 unfold bcj at hv Z4 Q4
 obtain ⟨k0, k1, k2, k3, k4, k5, k6, k7, k8⟩ := Z4.a9
 refine bodyPost_ret (by simp [results, Tryz.results25, go_sem, k0, k1, k2, k3, k4, k5, k6, k7, k8]; rfl) rfl ?_
 refine ⟨.mk key dur red mid (VT.mk uk un us (.slice uka uks.length ukc) (.slice ula ul.length ulc) uks ul), rfl, ?_, ?_, ?_⟩
 ·exact (ath _ _ _ _ _ _ _ _ _ _).2 ⟨rfl, rfl, rfl, rfl, htvh.out⟩
 ·exact Q4.weaken (fun b _ hb => by rw [hsz.out] at hb; omega)
 ·exact (hT2.trans (hu.below hs2.out (fun i e => by omega))).trans (hv.below (by have := hu.size; have := hs2.out; omega) (fun i e => by omega))
open Go.ChangeShapes Go.WideShapes Go.ChangeAt Go.RowKit Tryz
theorem bbh (a : Addr) (h : a.spot = none) (i : Nat) : a.add i = ⟨a.block, a.off + i, none⟩ := by
 obtain ⟨b, o, s⟩ := a
 subst h
 unfold Addr.add
 split <;> simp_all
section
variable {H : Type} {enc : TypeId × Value → H} {P : Program} {w : World} {base : Nat} {spare : Nat → Bool} {held : Bool}
def anb (k : IntKind) (n : Int) : List Value := [.int k n]
end
theorem Slc.load {kd : IntKind} {w : World} {a : Option Addr} {n cap : Nat} {L : List Int} (h : Slc (anb kd) 1 w (.slice a n cap) L) (i : Nat) (hi : i < L.length) :
 ∃ g off, a = some ⟨g, off, none⟩ ∧ w.cell? ⟨g, off + i, none⟩ = some (.int kd L[i]) := by
 rcases h with ⟨_, _, hv, _, h0⟩ | ⟨g, off, cap', hv, _, _, hc⟩
 ·rw [h0] at hi; simp at hi
 ·simp only [Value.slice.injEq] at hv
  refine ⟨g, off, hv.1, ?_⟩; have := hc i hi 0 (.int kd L[i]) rfl
  simpa using this
section
variable {H : Type} {enc : TypeId × Value → H} {P : Program} {w : World} {base : Nat} {spare : Nat → Bool} {held : Bool}
def ajf (b : Bool) : List Value := [.bool b]
end
theorem alf {P : Prop} (h : P := by
 have hck := hckh.out _ R2 (hT.pure hB12)
 have hckz := qq hck
 clear hck
 go_wp2_with (go_at_call 190; refine (hckz.out).mono ?_; rintro e w3 ⟨rfl, hB3⟩; have hBz := hB12.trans (hB3.mono hB12.size))
 go_ret
 exact ⟨by rw [hf.out]; rfl, hBz⟩) : P := h
theorem aow (t : PT) (P : Nat → Prop) (w : World) (hR : Rd P w t.app) (hT : Tb w) : Calls prog 161 #[t.arg] w fun e w' => e = .returned (.int .i64 t.p.chk) ∧ Below w.heap.size w w' := by
 obtain ⟨key, dur, red, mid, tv⟩ := t
 have hR : Rd _ _ tv := hR
 obtain ⟨tk, tn, ts, tka, tkc, tla, tlc, tks, tl, rfl, -⟩ := hR.open
 rw [PT.arg_mk]
 have hB1 := (qz w.heap.size w).alloc (qj _) (.cells #[.string key, .bool dur, .bool red, .string mid, .int .u8 tk, .int .u64 tn, .string ts, .slice tka tks.length tkc, .slice tla tl.length tlc] 58)
 have A1 := Blk.new w [.string key, .bool dur, .bool red, .string mid, .int .u8 tk, .int .u64 tn, .string ts, .slice tka tks.length tkc, .slice tla tl.length tlc] 58
 have R1 := hR.pure hB1
 obtain ⟨cx, hcx⟩ := zz ((VT.mk tk tn ts (.slice tka tks.length tkc) (.slice tla tl.length tlc) tks tl).v.chk)
 have hchk := qq (show (PT.mk key dur red mid (VT.mk tk tn ts (.slice tka tks.length tkc) (.slice tla tl.length tlc) tks tl)).p.chk = if key.size ≤ 255 ∧ mid.size ≤ 255 ∧ ((VT.mk tk tn ts (.slice tka tks.length tkc) (.slice tla tl.length tlc) tks tl).v = V.zero ∨ tk = 168 ∧ cx = 0) then 0 else 90 by rw [← hcx, ← (ate : (VT.mk tk tn ts (.slice tka tks.length tkc) (.slice tla tl.length tlc) tks tl).v.kind = tk)]; rfl)
 have hck := fun (u : World) (R : Rd P u (VT.mk tk tn ts (.slice tka tks.length tkc) (.slice tla tl.length tlc) tks tl)) (hu : Tb u) => ajb (VT.mk tk tn ts (.slice tka tks.length tkc) (.slice tla tl.length tlc) tks tl) P u R hu
 simp only [hcx, VT.arg_mk] at hck
 have hckh := qq hck
 clear hcx hck
 obtain ⟨nb, hnb⟩ : ∃ nb : Bool, nb = decide ((VT.mk tk tn ts (.slice tka tks.length tkc) (.slice tla tl.length tlc) tks tl).v = V.zero) := ⟨_, rfl⟩
 have hsm : Calls prog 124 #[(VT.mk tk tn ts (.slice tka tks.length tkc) (.slice tla tl.length tlc) tks tl).arg, VT.zero.arg] (w.alloc (.cells #[.string key, .bool dur, .bool red, .string mid, .int .u8 tk, .int .u64 tn, .string ts, .slice tka tks.length tkc, .slice tla tl.length tlc] 58)) fun e w' => e = .returned (.bool nb) ∧ Below (World.heap (w.alloc (.cells #[.string key, .bool dur, .bool red, .string mid, .int .u8 tk, .int .u64 tn, .string ts, .slice tka tks.length tkc, .slice tla tl.length tlc] 58))).size (w.alloc (.cells #[.string key, .bool dur, .bool red, .string mid, .int .u8 tk, .int .u64 tn, .string ts, .slice tka tks.length tkc, .slice tla tl.length tlc] 58)) w' := by
  by_cases hz : (VT.mk tk tn ts (.slice tka tks.length tkc) (.slice tla tl.length tlc) tks tl).v = V.zero
  ·rw [hnb, qp hz]; exact atd (P2 := fun _ => True) R1 VT.zero_rd (hz.trans VT.zero_vz.symm)
  ·rw [hnb, qg hz]; exact awc (P2 := fun _ => True) R1 VT.zero_rd (fun e => hz (e.trans VT.zero_vz))
 rw [VT.arg_mk] at hsm
 have hsmh := qq hsm
 have hnbh := qq (show (nb = true → (VT.mk tk tn ts (.slice tka tks.length tkc) (.slice tla tl.length tlc) tks tl).v = V.zero) ∧ (nb = false → ¬ (VT.mk tk tn ts (.slice tka tks.length tkc) (.slice tla tl.length tlc) tks tl).v = V.zero) by rw [hnb]; exact ⟨qt, jq⟩)
 clear hsm hnb
 obtain ⟨a0, a1, a2, a3, a4, a5, a6, a7, a8⟩ := A1.a9
 go_enter func161, ntmps161
 go_upto_region 2 with (go_at_call 124; refine (hsmh.out).mono ?_; rintro e w2 ⟨rfl, hB2⟩; have A2 := A1.pure hB2; have R2 := R1.pure hB2; have hB12 := hB1.trans (hB2.mono hB1.size); clear a0 a1 a2 a3 a4 a5 a6 a7 a8; obtain ⟨b0, b1, b2, b3, b4, b5, b6, b7, b8⟩ := A2.a9)
 by_cases h1 : 255 < key.size
 ·have h1d : decide ((255 : Int) < (key.size : Int)) = true := qp (by omega)
  have h1h := qq h1; clear h1; have hf := qq (show (PT.mk key dur red mid (VT.mk tk tn ts (.slice tka tks.length tkc) (.slice tla tl.length tlc) tks tl)).p.chk = 90 by rw [hchk.out]; exact qk (fun e => by have := h1h.out; omega)); go_wp2; go_ret; exact ⟨by rw [hf.out]; rfl, hB12⟩
 have h1d : decide ((255 : Int) < (key.size : Int)) = false := qg (by omega)
 have h1h := qq (show key.size ≤ 255 by omega)
 clear h1
 by_cases h1 : 255 < mid.size
 ·have h2d : decide ((255 : Int) < (mid.size : Int)) = true := qp (by omega)
  have h2h := qq h1; clear h1; have hf := qq (show (PT.mk key dur red mid (VT.mk tk tn ts (.slice tka tks.length tkc) (.slice tla tl.length tlc) tks tl)).p.chk = 90 by rw [hchk.out]; exact qk (fun e => by have := h2h.out; omega)); go_wp2; go_ret; exact ⟨by rw [hf.out]; rfl, hB12⟩
 have h2d : decide ((255 : Int) < (mid.size : Int)) = false := qg (by omega)
 have h2h := qq (show mid.size ≤ 255 by omega)
 clear h1
 cases nb
 rotate_left 1
 ·
  have hf := qq (show (PT.mk key dur red mid (VT.mk tk tn ts (.slice tka tks.length tkc) (.slice tla tl.length tlc) tks tl)).p.chk = 0 by rw [hchk.out]; exact qw ⟨h1h.out, h2h.out, .inl (hnbh.out.1 rfl)⟩); go_wp2; go_ret; exact ⟨by rw [hf.out]; rfl, hB12⟩
 by_cases hk : tk = 168
 rotate_left 1
 ·have h3 : decide (tk = 168) = false := qg hk
  have h4 : (tk == 168) = false := ju.2 hk; have h5 : (tk != 168) = true := bne_iff_ne.2 hk; have hkh := qq hk; clear hk; have hf := qq (show (PT.mk key dur red mid (VT.mk tk tn ts (.slice tka tks.length tkc) (.slice tla tl.length tlc) tks tl)).p.chk = 90 by rw [hchk.out]; exact qk (fun e => by rcases e.2.2 with e | e; exact hnbh.out.2 rfl e; exact hkh.out e.1)); go_wp2; go_ret; exact ⟨by rw [hf.out]; rfl, hB12⟩
 subst hk
 by_cases hc : cx = 0
 ·subst hc
  have hf := qq (show (PT.mk key dur red mid (VT.mk 168 tn ts (.slice tka tks.length tkc) (.slice tla tl.length tlc) tks tl)).p.chk = 0 by rw [hchk.out]; exact qw ⟨h1h.out, h2h.out, .inr ⟨rfl, rfl⟩⟩); exact alf
 ·have h3 : (cx == 0) = false := ju.2 hc
  have h4 : (cx != 0) = true := bne_iff_ne.2 hc; have hch := qq hc; clear hc; have hf := qq (show (PT.mk key dur red mid (VT.mk 168 tn ts (.slice tka tks.length tkc) (.slice tla tl.length tlc) tks tl)).p.chk = 90 by rw [hchk.out]; exact qk (fun e => by rcases e.2.2 with e | e; exact hnbh.out.2 rfl e; exact hch.out e.2)); exact alf
def acy : List Bool → Nat
 | [] => 0
 | b :: r => (if b then 1 else 0) + 2 * acy r
theorem aff : ∀ L : List Bool, acy L < 2 ^ L.length
 | [] => by simp [acy]
 | b :: r => by
  have := aff r; unfold acy; rw [jn, Nat.pow_succ]; cases b <;> simp <;> omega
theorem anc : ∀ (L : List Bool) (b : Bool), acy (L ++ [b]) = acy L + (if b then 2 ^ L.length else 0)
 | [], b => by cases b <;> simp [acy]
 | c :: r, b => by
  have := anc r b; rw [List.cons_append]; unfold acy; rw [this, jn, Nat.pow_succ]; cases b <;> simp <;> omega
theorem bbi (n k : Nat) (h : n < 2 ^ k) (hk : k < 3) : bits BinOp.or IntKind.u64 (n : Int) (IntKind.u64.wrap (2 ^ k)) = ((n + 2 ^ k : Nat) : Int) := by
 have e : IntKind.u64.wrap ((2 : Int) ^ k) = ((2 ^ k : Nat) : Int) := by
  match k, hk with
  | 0, _ => rfl
  | 1, _ => rfl
  | 2, _ => rfl
 have hp : 2 ^ k < 2 ^ 64 := by
  match k, hk with
  | 0, _ => omega
  | 1, _ => omega
  | 2, _ => omega
 rw [e, ax8 n (2 ^ k) (by omega) hp]
 congr 1
 match k, hk, n, h with
 | 0, _, 0, _ => rfl
 | 1, _, 0, _ => rfl
 | 1, _, 1, _ => rfl
 | 2, _, 0, _ => rfl
 | 2, _, 1, _ => rfl
 | 2, _, 2, _ => rfl
 | 2, _, 3, _ => rfl
theorem ag1 (w : World) (v : Value) (L : List Bool) (h : Slc ajf 1 w v L) (hL : L.length ≤ 3) : Calls prog 166 #[v] w fun e w' => e = .returned (.int .u64 (acy L)) ∧ Below w.heap.size w w' := by
 obtain ⟨va, vc, rfl, -⟩ := h.len
 have hLh := qq hL
 have hml : (L.length : Int) ≤ 3 := by omega
 clear hL
 go_enter func166, ntmps166
 go_wp2
 go_loopw [3, 8] (fun s3 s8 wr => ∃ k : Nat, k ≤ L.length ∧ s8 = .int .i64 k ∧ s3 = .int .u64 (acy (L.take k)) ∧ Below w.heap.size w wr) (fun s3 s8 _ => L.length - (intOf s8).toNat)
 case atStart => exact ⟨0, by omega, rfl, rfl, qz _ _⟩
 case round =>
  obtain ⟨k, hk, rfl, rfl, hB⟩ := hrel; by_cases hlt : k < L.length
  ·have h1 : (k : Int) < (L.length : Int) := by omega
   have hr := h.pure hB; obtain ⟨g, off, rfl⟩ := hr.addrB hlt; have q := hr.get k hlt 0 _ rfl; rw [Nat.mul_one, Nat.add_zero] at q; have hst := qq (show L.take (k + 1) = L.take k ++ [L[k]] from jx hlt); obtain ⟨b, hb⟩ := zz (L[k]); rw [hb] at q hst; have hnl := qq (show acy (L.take k) < 2 ^ k by have := aff (L.take k); rwa [List.length_take, Nat.min_eq_left hk] at this); have hap := qq (show acy (L.take (k + 1)) = acy (L.take k) + (if b then 2 ^ k else 0) by rw [hst.out, anc, List.length_take, Nat.min_eq_left hk]); obtain ⟨n, hn⟩ := zz (acy (L.take k)); rw [hn] at hnl hap ⊢; clear hb hn hr; cases b
   ·go_wp2
    go_roundw
    case rel => exact ⟨k + 1, by omega, by go_num, by rw [hap.out]; rfl, hB⟩
    case measure => simp [intOf]; omega
   ·go_wp2
    go_roundw
    case rel => exact ⟨k + 1, by omega, by go_num, by rw [hap.out, bbi n k hnl.out (by have := hLh.out; omega)]; rfl, hB⟩
    case measure => simp [intOf]; omega
  ·obtain rfl : k = L.length := by omega
   have hz := qq (js (l := L)); go_wp2; go_ret; exact ⟨by rw [hz.out]; rfl, hB⟩
theorem Own.cast {α : Type} {base : Nat} {e : TypeId} {m : Nat} {enc : α → List Value} {w : World} {v : Value} {L L' : List α} (h : Own base e m enc w v L) (hE : L = L') : Own base e m enc w v L' := hE ▸ h
theorem Own.byte2 (w : World) (c0 c1 : UInt8) (x0 x1 : Int) (h0 : x0 = (c0.toNat : Int)) (h1 : x1 = (c1.toNat : Int)) {base : Nat} (hb : base ≤ w.heap.size) :
 Own base 5 1 aax (w.alloc (.cells #[.int .u8 x0, .int .u8 x1] 5)) (.slice (some ⟨w.heap.size, 0, none⟩) 2 2) [c0, c1] :=
 ⟨by simp [aax], .inr ⟨w.heap.size, 2, #[.int .u8 x0, .int .u8 x1], rfl, hb, heap_alloc_new w _, by simp, by unfold maxLen; omega, by simp, by subst h0 h1; simp [aax]⟩⟩
theorem ajg {P : Prop} (h : P := by
 subst hk0
 obtain ⟨g, off, rfl⟩ := tr.addrB (show 0 < [s].length by simp)
 have qc := tr.get 0 (by simp) 0 _ rfl
 rw [Nat.mul_one, Nat.add_zero] at qc
 have qc : wr.cell? ⟨g, off + 0, none⟩ = some (.string s) := qc
 have qd : wr.cell? ⟨g, off, none⟩ = some (.string s) := qc
 have hLz := qq (show L.length = 4 by rw [hLe.out]; simp [hl0z.out])
 have hL0 := qq (show L = l0 by rw [hLe.out]; simp)
 by_cases h0 : s.size = 0
 ·obtain rfl : s = ⟨#[]⟩ := af5 h0
  clear h0; go_wp2; go_roundw
  case rel => exact ⟨1, L, rfl, by omega, hOL, qq (by rw [hL0.out]; simp [stx]; rfl), hBr⟩
  case measure => simp [intOf]
 ·have h1 : ¬ s.toList = [] := fun e => h0 (by rw [← acr, e]; rfl)
  have h2 := aeg (show 0 < s.size by omega); have hstx := qq (show stx s = be 1 s.size ++ s.data.toList by unfold stx; rw [qk h0, ap0 (by have := hsh.out; omega)]; rfl); clear h0; go_wp2_with (go_at_call 164; refine (adz _ _ L s 1 (hOL.slc aaa) (by omega) (by have := hsh.out; omega) (by have := hsh.out; have := hLz.out; unfold Big; omega)).mono ?_; rintro e w3 ⟨r3, rfl, O3, hB3⟩; rw [← hstx.out] at O3; have hB3r := hBr.trans (hB3.mono hBr.size); have O3 := O3.rebase (b' := w.heap.size) (fun i hi => jk hBr.size (O3.ge hi))); go_roundw
  case rel => exact ⟨1, L ++ stx s, rfl, by omega, O3, qq (by rw [hL0.out]; simp), hB3r⟩
  case measure => simp [intOf]) : P := h
theorem aox (w : World) (pb q : Nat) (ov tv : Value) (O : List UInt8) (s : ByteArray) (fl : Nat) (hq : Blk w q [ov]) (hO : Own (q + 1) 5 1 aax w ov O) (ht : Slc abv 1 w tv [s]) (hs : s.size ≤ 255) (hf : fl < 256) (hOl : O.length ≤ 1000) :
 Calls prog 162 #[.int .u8 1, .int .u64 fl, tv, .pointer (some ⟨pb, 0, none⟩), .pointer (some ⟨q, 0, none⟩)] w fun e w' => e = .returned (.tuple #[]) ∧ ∃ r, Blk w' q [r] ∧ Own (q + 1) 5 1 aax w' r (O ++ part ([4, 1, 0, UInt8.ofNat fl] ++ stx s)) ∧ Below q w w' := by
 have hqs := hq.lt
 obtain ⟨ta, tc, rfl, -⟩ := ht.len
 have ht : Slc abv 1 w (.slice ta 1 tc) [s] := ht
 have hf0 : (0 : Int) ≤ (fl : Int) := by omega
 have hfh := qq hf
 have hsh := qq hs
 have hOlh := qq hOl
 have hqh := qq hqs
 have hBa := (qz w.heap.size w).alloc (qj _) (.cells #[.int .u8 4, .int .u8 1] 5)
 have hOa : Own w.heap.size 5 1 aax (w.alloc (.cells #[.int .u8 4, .int .u8 1] 5)) (.slice (some ⟨w.heap.size, 0, none⟩) 2 2) [4, 1] := Own.byte2 w 4 1 4 1 rfl rfl (qj _)
 obtain ⟨l0, hl0⟩ : ∃ l0 : List UInt8, [4, 1] ++ be 2 fl = l0 := ⟨_, rfl⟩
 have hl0h := qq hl0
 have hl0z := qq (show l0.length = 4 by rw [← hl0, jz, aao]; rfl)
 clear hf hs hOl hqs hl0
 go_enter func162, ntmps162
 go_wp2_with (go_at_call 163; refine (acg _ _ [4, 1] (fl : Int) 2 (hOa.slc aaa) hf0 (by unfold Wd; omega) (by unfold Big; simp)).mono ?_; rintro e w1 ⟨r1, rfl, O1, hB1⟩; rw [Int.toNat_natCast, hl0h.out] at O1; have hT1 := hBa.trans (hB1.mono hBa.size); have O1 := O1.rebase (b' := w.heap.size) (fun i hi => jk hBa.size (O1.ge hi)))
 go_loopw [8, 19] (fun s8 s19 wr => ∃ (k : Nat) (L : List UInt8), s19 = .int .i64 k ∧ k ≤ 1 ∧ Own w.heap.size 5 1 aax wr s8 L ∧ Hid (L = l0 ++ if k = 0 then [] else stx s) ∧ Below w.heap.size w wr) (fun s8 s19 _ => 1 - (intOf s19).toNat)
 case atStart => exact ⟨0, l0, rfl, by omega, O1, qq (by simp), hT1⟩
 case round =>
  obtain ⟨k, L, rfl, hk, hOL, hLe, hBr⟩ := hrel; obtain ⟨ba, bc, rfl⟩ := aap hOL; have tr := ht.pure hBr; by_cases hk0 : k = 0
  ·exact ajg
  ·obtain rfl : k = 1 := by omega
   have hL0 := qq (show L = l0 ++ stx s by rw [hLe.out]; simp); have hLz := qq (show L.length ≤ 300 by have h1 := aom s; have h2 := hsh.out; have h3 := hl0z.out; rw [hL0.out, jz]; omega); have hqr := hq.pure hBr; have hOr := hO.pure hBr; obtain ⟨oa, oc, rfl⟩ := aap hO; have hq0 := hqr.at 0 rfl; have hqf := hqr.frozen 0; have hl1 := qq (show l0 = [4, 1, 0, UInt8.ofNat fl] by rw [← hl0h.out, amw hfh.out]; rfl); have hqB := qq (show q + 1 ≤ wr.heap.size by have h1 := hBr.size; have h2 := hqh.out; omega); clear hk0 hk; have hlL0 : (0 : Int) ≤ (L.length : Int) := by omega
   have hlw : IntKind.u64.wrap (L.length : Int) = (L.length : Int) := wrap_u64 _ (by omega) (by have := hLz.out; omega); go_wp2_with (first | (go_at_call 163; refine (acg _ _ O (L.length : Int) 4 (hOr.slc aaa) hlL0 (by unfold Wd; omega) (by have := hOlh.out; unfold Big; omega)).mono ?_; rintro e w5 ⟨r5, rfl, O5, hB5⟩; rw [Int.toNat_natCast] at O5; have hT5 := hBr.trans (hB5.mono hBr.size); have O5 := O5.rebase (b' := q + 1) (fun i hi => jk (jk hqB.out (qj _)) (O5.ge hi)); have b5 := (hOL.pure hB5).slc aaa; have q5 := hqr.pure hB5; have z5 := jk hqB.out hB5.size; have e0 := q5.at 0 rfl; have e1 := q5.frozen 0) | (at_builtin; refine aaj (base := q + 1) rfl (.tmp 52) (.tmp 53) 189 5 rfl abx aaa aay _ (O ++ be 4 L.length) rfl O5 _ L rfl b5 (by have := hLz.out; have := hOlh.out; rw [jz, aao]; unfold maxLen; omega) (by have := hLz.out; have := hOlh.out; rw [jz, aao]; omega) z5 ?_; intro v6 w6 hO6 hgr6 hfr6 hsh6; have hU6 := Upd.grown (S := fun k => q + 1 ≤ k) hgr6 (fun j e => O5.ge e); have q6 := q5.upd hU6 (fun e => by omega); have y0 := q6.at 0 rfl; have y1 := q6.frozen 0; obtain ⟨M6, hM6⟩ := zz ((O ++ be 4 L.length) ++ L); rw [hM6] at hO6; have hM6h := qq hM6; clear hM6; obtain ⟨va6, vc6, rfl⟩ := aap hO6)); have q7 := q6.set 0 (.slice va6 M6.length vc6); have hO7 := hO6.other ⟨q, 0, none⟩ (.slice va6 M6.length vc6) (fun i hi e => by have h1 := hO6.ge hi; have h2 : i = q := e; omega); have hB7 := ((hT5.mono (Nat.le_of_lt hqh.out)).trans (hU6.below (jk (Nat.le_succ q) z5) (fun i hi => by omega))).trans ((Upd.set (S := fun i => i = q) (w := w6) (p := ⟨q, 0, none⟩) rfl (.slice va6 M6.length vc6)).below (B := q) (by have h1 := q6.lt; omega) (fun i hi => by omega)); go_end0; have hfin : M6 = O ++ part ([4, 1, 0, UInt8.ofNat fl] ++ stx s) := by rw [← hM6h.out, ← hl1.out, ← hL0.out]; unfold part; rw [List.append_assoc]
   exact ⟨rfl, _, q7, hO7.cast hfin, hB7⟩
theorem ajh (w : World) (pb q : Nat) (ov tv : Value) (O : List UInt8) (s : ByteArray) (fl : Nat) (hq : Blk w q [ov]) (hO : Own (q + 1) 5 1 aax w ov O) (ht : Slc abv 1 w tv [s]) (hs : s.size ≤ 255) (hf : fl < 256) (hOl : O.length ≤ 1000) (key mid : ByteArray) (dur red : Bool) (tk tn : Int) (ts : ByteArray) (tka : Option Addr) (tkc : Nat) (tla : Option Addr) (tlc : Nat) (tks : List ByteArray) (tl : List VT) (P : Nat → Prop) (mb : Bool) (hA : Blk w pb [.string key, .bool dur, .bool red, .string mid, .int .u8 tk, .int .u64 tn, .string ts, .slice tka tks.length tkc, .slice tla tl.length tlc]) (hR : Rd P w (VT.mk tk tn ts (.slice tka tks.length tkc) (.slice tla tl.length tlc) tks tl)) (hT : Tb w) (hmb : (bits BinOp.and IntKind.u64 (fl : Int) 2 != 0) = mb) (hck : mb = true → (VT.mk tk tn ts (.slice tka tks.length tkc) (.slice tla tl.length tlc) tks tl).v.chk = 0) :
 Calls prog 162 #[.int .u8 3, .int .u64 fl, tv, .pointer (some ⟨pb, 0, none⟩), .pointer (some ⟨q, 0, none⟩)] w fun e w' => e = .returned (.tuple #[]) ∧ ∃ r, Blk w' q [r] ∧ Own (q + 1) 5 1 aax w' r (O ++ part ([4, 3, 0, UInt8.ofNat fl] ++ stx s ++ (if mb = true then (VT.mk tk tn ts (.slice tka tks.length tkc) (.slice tla tl.length tlc) tks tl).v.bytes else []))) ∧ Below q w w' := by
 have hqs := hq.lt
 obtain ⟨ta, tc, rfl, -⟩ := ht.len
 have ht : Slc abv 1 w (.slice ta 1 tc) [s] := ht
 have hf0 : (0 : Int) ≤ (fl : Int) := by omega
 have hfh := qq hf
 have hsh := qq hs
 have hOlh := qq hOl
 have hqh := qq hqs
 have hBa := (qz w.heap.size w).alloc (qj _) (.cells #[.int .u8 4, .int .u8 3] 5)
 have hOa : Own w.heap.size 5 1 aax (w.alloc (.cells #[.int .u8 4, .int .u8 3] 5)) (.slice (some ⟨w.heap.size, 0, none⟩) 2 2) [4, 3] := Own.byte2 w 4 3 4 3 rfl rfl (qj _)
 obtain ⟨l0, hl0⟩ : ∃ l0 : List UInt8, [4, 3] ++ be 2 fl = l0 := ⟨_, rfl⟩
 have hl0h := qq hl0
 have hl0z := qq (show l0.length = 4 by rw [← hl0, jz, aao]; rfl)
 clear hf hs hOl hqs hl0
 go_enter func162, ntmps162
 go_wp2_with (go_at_call 163; refine (acg _ _ [4, 3] (fl : Int) 2 (hOa.slc aaa) hf0 (by unfold Wd; omega) (by unfold Big; simp)).mono ?_; rintro e w1 ⟨r1, rfl, O1, hB1⟩; rw [Int.toNat_natCast, hl0h.out] at O1; have hT1 := hBa.trans (hB1.mono hBa.size); have O1 := O1.rebase (b' := w.heap.size) (fun i hi => jk hBa.size (O1.ge hi)))
 go_loopw [8, 19] (fun s8 s19 wr => ∃ (k : Nat) (L : List UInt8), s19 = .int .i64 k ∧ k ≤ 1 ∧ Own w.heap.size 5 1 aax wr s8 L ∧ Hid (L = l0 ++ if k = 0 then [] else stx s) ∧ Below w.heap.size w wr) (fun s8 s19 _ => 1 - (intOf s19).toNat)
 case atStart => exact ⟨0, l0, rfl, by omega, O1, qq (by simp), hT1⟩
 case round =>
  obtain ⟨k, L, rfl, hk, hOL, hLe, hBr⟩ := hrel; obtain ⟨ba, bc, rfl⟩ := aap hOL; have tr := ht.pure hBr; by_cases hk0 : k = 0
  ·exact ajg
  ·obtain rfl : k = 1 := by omega
   have hL0 := qq (show L = l0 ++ stx s by rw [hLe.out]; simp); have hLz := qq (show L.length ≤ 300 by have h1 := aom s; have h2 := hsh.out; have h3 := hl0z.out; rw [hL0.out, jz]; omega); have hqr := hq.pure hBr; have hOr := hO.pure hBr; obtain ⟨oa, oc, rfl⟩ := aap hO; have hq0 := hqr.at 0 rfl; have hqf := hqr.frozen 0; have hl1 := qq (show l0 = [4, 3, 0, UInt8.ofNat fl] by rw [← hl0h.out, amw hfh.out]; rfl); have hqB := qq (show q + 1 ≤ wr.heap.size by have h1 := hBr.size; have h2 := hqh.out; omega); clear hk0 hk; have hAr := hA.pure hBr; have hRr := hR.pure hBr; cases mb
   ·have hm0 := qq hmb
    have hlL0 : (0 : Int) ≤ (L.length : Int) := by omega
    have hlw : IntKind.u64.wrap (L.length : Int) = (L.length : Int) := wrap_u64 _ (by omega) (by have := hLz.out; omega); go_wp2_with (first | (go_at_call 163; refine (acg _ _ O (L.length : Int) 4 (hOr.slc aaa) hlL0 (by unfold Wd; omega) (by have := hOlh.out; unfold Big; omega)).mono ?_; rintro e w5 ⟨r5, rfl, O5, hB5⟩; rw [Int.toNat_natCast] at O5; have hT5 := hBr.trans (hB5.mono hBr.size); have O5 := O5.rebase (b' := q + 1) (fun i hi => jk (jk hqB.out (qj _)) (O5.ge hi)); have b5 := (hOL.pure hB5).slc aaa; have q5 := hqr.pure hB5; have z5 := jk hqB.out hB5.size; have e0 := q5.at 0 rfl; have e1 := q5.frozen 0) | (at_builtin; refine aaj (base := q + 1) rfl (.tmp 52) (.tmp 53) 189 5 rfl abx aaa aay _ (O ++ be 4 L.length) rfl O5 _ L rfl b5 (by have := hLz.out; have := hOlh.out; rw [jz, aao]; unfold maxLen; omega) (by have := hLz.out; have := hOlh.out; rw [jz, aao]; omega) z5 ?_; intro v6 w6 hO6 hgr6 hfr6 hsh6; have hU6 := Upd.grown (S := fun k => q + 1 ≤ k) hgr6 (fun j e => O5.ge e); have q6 := q5.upd hU6 (fun e => by omega); have y0 := q6.at 0 rfl; have y1 := q6.frozen 0; obtain ⟨M6, hM6⟩ := zz ((O ++ be 4 L.length) ++ L); rw [hM6] at hO6; have hM6h := qq hM6; clear hM6; obtain ⟨va6, vc6, rfl⟩ := aap hO6)); have q7 := q6.set 0 (.slice va6 M6.length vc6); have hO7 := hO6.other ⟨q, 0, none⟩ (.slice va6 M6.length vc6) (fun i hi e => by have h1 := hO6.ge hi; have h2 : i = q := e; omega); have hB7 := ((hT5.mono (Nat.le_of_lt hqh.out)).trans (hU6.below (jk (Nat.le_succ q) z5) (fun i hi => by omega))).trans ((Upd.set (S := fun i => i = q) (w := w6) (p := ⟨q, 0, none⟩) rfl (.slice va6 M6.length vc6)).below (B := q) (by have h1 := q6.lt; omega) (fun i hi => by omega)); go_end0; have hfin : M6 = O ++ part ([4, 3, 0, UInt8.ofNat fl] ++ stx s ++ (if false = true then (VT.mk tk tn ts (.slice tka tks.length tkc) (.slice tla tl.length tlc) tks tl).v.bytes else [])) := by rw [qk (by simp), List.append_nil, ← hM6h.out, ← hl1.out, ← hL0.out]; unfold part; rw [List.append_assoc]
    exact ⟨rfl, _, q7, by simpa using hO7.cast hfin, hB7⟩
   ·obtain ⟨xt, hxt⟩ := zz ((VT.mk tk tn ts (.slice tka tks.length tkc) (.slice tla tl.length tlc) tks tl).v.bytes)
    have hav := hck rfl; obtain ⟨-, hcn, hmay⟩ := al3 hav; have hlb := qq (show xt.length ≤ 1000000 by have h4 := aiv _ hmay 200 hcn; rw [hxt] at h4; omega); have hvp := av9 (VT.mk tk tn ts (.slice tka tks.length tkc) (.slice tla tl.length tlc) tks tl) P wr hRr (hT.pure hBr); rw [hav, qw rfl, hxt, VT.arg_mk] at hvp; have hvph := qq hvp; have hxth := qq hxt; obtain ⟨a0, a1, a2, a3, a4, a5, a6, a7, a8⟩ := hAr.a9; clear hcn hmay hvp hav hxt; go_upto_region 10 with (first | (go_at_call 165; (with_reducible refine (hvph.out).mono ?_); rintro e w7 ⟨r7, rfl, O7, hB7⟩; obtain ⟨ra, rc, rfl⟩ := aap O7; have P7 := hOL.pure hB7; have hbb := hBr.trans (hB7.mono hBr.size); have hqr7 := hqr.pure hB7) | (at_builtin; refine aaj (base := w.heap.size) rfl (.tmp 45) (.tmp 46) 189 5 rfl abx aaa aay _ L rfl P7 _ xt rfl (O7.slc aaa) (by have := hLz.out; have := hlb.out; unfold maxLen; omega) (by have := hLz.out; have := hlb.out; omega) hbb.size ?_; intro v8 w8 hO8 hgr8 hfr8 hsh8; have hbx := hbb.grown hgr8 hbb.size (fun j e => P7.ge e); obtain ⟨L8, hL8⟩ := zz (L ++ xt); rw [hL8] at hO8; have hL8h := qq hL8; clear hL8; obtain ⟨va8, vc8, rfl⟩ := aap hO8)); have hU8 := Upd.grown (S := fun k => w.heap.size ≤ k) hgr8 (fun j e => P7.ge e); have hqr8 := hqr7.upd hU8 (fun e => by have := hqh.out; omega); have hOr8 := hO.pure hbx; have hqB8 := qq (show q + 1 ≤ w8.heap.size by have h1 := hbx.size; have h2 := hqh.out; omega); have hL8z := qq (show L8.length ≤ 1000300 by have h1 := hLz.out; have h2 := hlb.out; rw [← hL8h.out, jz]; omega); clear hq0 hqf a0 a1 a2 a3 a4 a5 a6 a7 a8; have hq0 := hqr8.at 0 rfl; have hqf := hqr8.frozen 0; have hlL0 : (0 : Int) ≤ (L8.length : Int) := by omega
    have hlw : IntKind.u64.wrap (L8.length : Int) = (L8.length : Int) := wrap_u64 _ (by omega) (by have := hL8z.out; omega); go_wp2_with (first | (go_at_call 163; refine (acg _ _ O (L8.length : Int) 4 (hOr8.slc aaa) hlL0 (by unfold Wd; omega) (by have := hOlh.out; unfold Big; omega)).mono ?_; rintro e w5 ⟨r5, rfl, O5, hB5⟩; rw [Int.toNat_natCast] at O5; have hT5 := hbx.trans (hB5.mono hbx.size); have O5 := O5.rebase (b' := q + 1) (fun i hi => jk (jk hqB8.out (qj _)) (O5.ge hi)); have b5 := (hO8.pure hB5).slc aaa; have q5 := hqr8.pure hB5; have z5 := jk hqB8.out hB5.size; have e0 := q5.at 0 rfl; have e1 := q5.frozen 0) | (at_builtin; refine aaj (base := q + 1) rfl (.tmp 52) (.tmp 53) 189 5 rfl abx aaa aay _ (O ++ be 4 L8.length) rfl O5 _ L8 rfl b5 (by have := hL8z.out; have := hOlh.out; rw [jz, aao]; unfold maxLen; omega) (by have := hL8z.out; have := hOlh.out; rw [jz, aao]; omega) z5 ?_; intro v6 w6 hO6 hgr6 hfr6 hsh6; have hU6 := Upd.grown (S := fun k => q + 1 ≤ k) hgr6 (fun j e => O5.ge e); have q6 := q5.upd hU6 (fun e => by omega); have y0 := q6.at 0 rfl; have y1 := q6.frozen 0; obtain ⟨M6, hM6⟩ := zz ((O ++ be 4 L8.length) ++ L8); rw [hM6] at hO6; have hM6h := qq hM6; clear hM6; obtain ⟨va6, vc6, rfl⟩ := aap hO6)); have q7 := q6.set 0 (.slice va6 M6.length vc6); have hO7 := hO6.other ⟨q, 0, none⟩ (.slice va6 M6.length vc6) (fun i hi e => by have h1 := hO6.ge hi; have h2 : i = q := e; omega); have hB7 := ((hT5.mono (Nat.le_of_lt hqh.out)).trans (hU6.below (jk (Nat.le_succ q) z5) (fun i hi => by omega))).trans ((Upd.set (S := fun i => i = q) (w := w6) (p := ⟨q, 0, none⟩) rfl (.slice va6 M6.length vc6)).below (B := q) (by have h1 := q6.lt; omega) (fun i hi => by omega)); go_end0; have hfin : M6 = O ++ part ([4, 3, 0, UInt8.ofNat fl] ++ stx s ++ (if true = true then (VT.mk tk tn ts (.slice tka tks.length tkc) (.slice tla tl.length tlc) tks tl).v.bytes else [])) := by rw [qw rfl, hxth.out, ← hM6h.out, ← hl1.out, ← hL0.out, hL8h.out]; unfold part; rw [List.append_assoc]
    exact ⟨rfl, _, q7, by simpa using hO7.cast hfin, hB7⟩
theorem alg (w : World) (a b c : Bool) : Slc ajf 1 (w.alloc (.cells #[.bool a, .bool b, .bool c] 4)) (.slice (some ⟨w.heap.size, 0, none⟩) 3 3) [a, b, c] := by
 refine .inr ⟨w.heap.size, 0, 3, rfl, qj _, by unfold maxLen; omega, fun i hi j u hu => ?_⟩
 have hb := Blk.new w [.bool a, .bool b, .bool c] 4
 match i, hi, j, hu with
 | 0, _, 0, hu => exact (hb.cell 0).trans hu
 | 1, _, 0, hu => exact (hb.cell 1).trans hu
 | 2, _, 0, hu => exact (hb.cell 2).trans hu
theorem ahh (w : World) (a b : Bool) : Slc ajf 1 (w.alloc (.cells #[.bool a, .bool b] 4)) (.slice (some ⟨w.heap.size, 0, none⟩) 2 2) [a, b] := by
 refine .inr ⟨w.heap.size, 0, 2, rfl, qj _, by unfold maxLen; omega, fun i hi j u hu => ?_⟩
 have hb := Blk.new w [.bool a, .bool b] 4
 match i, hi, j, hu with
 | 0, _, 0, hu => exact (hb.cell 0).trans hu
 | 1, _, 0, hu => exact (hb.cell 1).trans hu
theorem ag2 (w : World) (s : ByteArray) : Slc abv 1 (w.alloc (.cells #[.string s] 9)) (.slice (some ⟨w.heap.size, 0, none⟩) 1 1) [s] := by
 refine .inr ⟨w.heap.size, 0, 1, rfl, qj _, by unfold maxLen; omega, fun i hi j u hu => ?_⟩
 have hb := Blk.new w [.string s] 9
 match i, hi, j, hu with
 | 0, _, 0, hu => exact (hb.cell 0).trans hu
theorem bcv (key mid : ByteArray) (dur red : Bool) (v : V) : acy [dur, red, !key.toList.isEmpty] = fl1 ⟨key, dur, red, mid, v⟩ := by
 unfold fl1
 by_cases h0 : key.size = 0
 ·have := agt h0
  cases dur <;> cases red <;> simp [h0, this, acy]
 ·have := aeg (show 0 < key.size by omega)
  cases dur <;> cases red <;> simp [h0, this, acy]
theorem bcw (key mid : ByteArray) (dur red mb : Bool) (v : V) (hm : mb = decide (v.kind = 168)) : acy [!mid.toList.isEmpty, mb] = fl2 ⟨key, dur, red, mid, v⟩ := by
 subst hm
 unfold fl2
 by_cases h0 : mid.size = 0
 ·have := agt h0
  by_cases hk : v.kind = 168 <;> simp [h0, this, hk, acy]
 ·have := aeg (show 0 < mid.size by omega)
  by_cases hk : v.kind = 168 <;> simp [h0, this, hk, acy]
theorem bcy (b c : Bool) : (bits BinOp.and IntKind.u64 ((acy [b, c] : Nat) : Int) 2 != 0) = c := by cases b <;> cases c <;> rfl
theorem alh {P : Prop} (h : P := by
 refine hK.out _ _ hb (fun zg => ?_)
 clear hK K
 (try simp only [Act.put, lsT, lsZ, lsS])
 refine aai 13 rfl (fun K hK => ?_)
 go_simp
 have q4 := q3.pure hb'
 go_at_call 162
 refine (aox _ w.heap.size w2.heap.size _ _ [] key n1 q4 Own.nil s23 hkey.out hn1l.out (by simp)).mono ?_
 rintro e w5 ⟨rfl, r5, Q5, O5, hB5⟩
 have hb := hb.trans hB5
 refine hK.out _ _ hb (fun zg => ?_)
 clear hK K
 (try simp only [Act.put, lsT, lsZ, lsS])
 refine wpAnyH_done (by kernel_rfl) ?_ _
 go_wp2_with fail
 go_meet
 exact ⟨r5, Q5, O5.cast ((List.nil_append _).trans hl5h.out), hb⟩) : P := h
theorem aji {P : Prop} (h : P := by
 have hb := hb'.mono hq1.out
 refine hK.out _ _ hb (fun zg => ?_)
 clear hK K
 (try simp only [Act.put, lsT, lsZ, lsS])
 refine aai 9 rfl (fun K hK => ?_)
 go_simp
 go_at_call 166
 refine (ag1 _ _ _ s19 (by simp)).mono ?_
 rintro e w4 ⟨he, hB4⟩
 rw [hn1h.out] at he
 subst he
 have hb' := hb'.trans (hB4.mono hb'.size)
 have hb := hb'.mono hq1.out
 have s23 := s23.pure hB4
 exact alh) : P := h
theorem ajj (t : PT) (P : Nat → Prop) (w : World) (hR : Rd P w t.app) (hT : Tb w) : Calls prog 134 #[t.arg] w fun e w' => e = .returned (.tuple #[.string (if t.p.chk = 0 then t.p.text else ⟨#[]⟩), .int .i64 t.p.chk]) ∧ Below w.heap.size w w' := by
 obtain ⟨key, dur, red, mid, tv⟩ := t
 have hR : Rd _ _ tv := hR
 obtain ⟨tk, tn, ts, tka, tkc, tla, tlc, tks, tl, rfl, -⟩ := hR.open
 have hB1 := (qz w.heap.size w).alloc (qj _) (.cells #[.string key, .bool dur, .bool red, .string mid, .int .u8 tk, .int .u64 tn, .string ts, .slice tka tks.length tkc, .slice tla tl.length tlc] 58)
 have A1 := Blk.new w [.string key, .bool dur, .bool red, .string mid, .int .u8 tk, .int .u64 tn, .string ts, .slice tka tks.length tkc, .slice tla tl.length tlc] 58
 have R1 := hR.pure hB1
 obtain ⟨px, hpx⟩ := zz ((PT.mk key dur red mid (VT.mk tk tn ts (.slice tka tks.length tkc) (.slice tla tl.length tlc) tks tl)).p)
 obtain ⟨cx, hcx⟩ := zz px.chk
 have hch := (aow (PT.mk key dur red mid (VT.mk tk tn ts (.slice tka tks.length tkc) (.slice tla tl.length tlc) tks tl)) P _ R1 (hT.pure hB1))
 rw [hpx, hcx, PT.arg_mk] at hch
 rw [hpx, hcx, PT.arg_mk]
 have hchh := qq hch
 have hpxh := qq (show px = Pr.mk key dur red mid (VT.mk tk tn ts (.slice tka tks.length tkc) (.slice tla tl.length tlc) tks tl).v from hpx.symm)
 have hcxh := qq hcx
 clear hch hpx hcx
 obtain ⟨a0, a1, a2, a3, a4, a5, a6, a7, a8⟩ := A1.a9
 go_enter func134, ntmps134
 by_cases h0 : cx = 0
 rotate_left 1
 ·have h1 : (cx == 0) = false := ju.2 h0
  have h2 : (cx != 0) = true := bne_iff_ne.2 h0; have hc9 := qq (show cx = 90 by rcases bat px with e | e; exact jp (hcxh.out.symm.trans e) h0; exact hcxh.out.symm.trans e); rw [qk h0]; clear h0; go_wp2_with (go_at_call 161; refine (hchh.out).mono ?_; rintro e w2 ⟨rfl, hB2⟩; have hB12 := hB1.trans (hB2.mono hB1.size)); go_ret2; exact ⟨by rw [hc9.out]; rfl, hB12⟩
 subst h0
 have hok := akr.1 hcxh.out
 have hkey := qq (show key.size ≤ 255 by have := hok.1; rw [hpxh.out] at this; exact this)
 have hmid := qq (show mid.size ≤ 255 by have := hok.2.1; rw [hpxh.out] at this; exact this)
 have happ := qq (show (VT.mk tk tn ts (.slice tka tks.length tkc) (.slice tla tl.length tlc) tks tl).v = V.zero ∨ tk = 168 ∧ (VT.mk tk tn ts (.slice tka tks.length tkc) (.slice tla tl.length tlc) tks tl).v.chk = 0 by have := hok.2.2; rw [hpxh.out] at this; rcases this with e | e; exact .inl e; exact .inr ⟨by rw [← (ate : (VT.mk tk tn ts (.slice tka tks.length tkc) (.slice tla tl.length tlc) tks tl).v.kind = tk)]; exact e.1, e.2⟩)
 clear hok
 rw [qw rfl]
 go_upto_region 5 with (go_at_call 161; refine (hchh.out).mono ?_; rintro e w2 ⟨rfl, hB2⟩; have A2 := A1.pure hB2; have R2 := R1.pure hB2; have hB12 := hB1.trans (hB2.mono hB1.size); clear a0 a1 a2 a3 a4 a5 a6 a7 a8; have hBq := (qz w2.heap.size w2).alloc (qj _) (.cells #[.slice none 0 0] 189); have A3 := A2.pure hBq; have q3 := Blk.new w2 [.slice none 0 0] 189)
 have hs3 : (w2.alloc (.cells #[.slice none 0 0] 189)).heap.size = w2.heap.size + 1 := by simp
 have hpb := qq (show w.heap.size < w2.heap.size by have h1 := hB2.size; simp at h1; omega)
 have hTq := hB12.trans (hBq.mono hB12.size)
 generalize World.alloc w2 (.cells #[.slice none 0 0] 189) = W3 at *
 obtain ⟨n1, hn1⟩ := zz (acy [dur, red, !key.toList.isEmpty])
 have hn1h := qq hn1
 have hn1l := qq (show n1 < 256 by have := aff [dur, red, !key.toList.isEmpty]; rw [hn1] at this; simp at this; omega)
 have hb1 := qq (show aoh px = [4, 1, 0, UInt8.ofNat n1] ++ stx key by rw [hpxh.out, ← hn1, bcv key mid dur red (VT.mk tk tn ts (.slice tka tks.length tkc) (.slice tla tl.length tlc) tks tl).v]; rfl)
 have hq1 := qq (show w2.heap.size ≤ W3.heap.size by omega)
 have hAh := qq (fun (u : World) (h : Below w2.heap.size W3 u) => A3.below h hpb.out)
 have R2W := qq (fun (u : World) (h : Below w2.heap.size W3 u) => R2.pure (hBq.trans h))
 have hb' := qz W3.heap.size W3
 clear hn1 hs3
 obtain ⟨l5, hl5⟩ := zz (part ([4, 1, 0, UInt8.ofNat n1] ++ stx key))
 have hl5h := qq hl5
 have hl5z := qq (show l5.length ≤ 400 by rw [← hl5, awd]; have h1 := aom key; have h2 := hkey.out; simp only [jz, jn, List.length_nil]; omega)
 clear hl5
 go_cut [] from 7 (fun wx => ∃ r5, Blk wx w2.heap.size [r5] ∧ Own (w2.heap.size + 1) 5 1 aax wx r5 l5 ∧ Below w2.heap.size W3 wx)
 case first =>
  have hb := (abn W3).mono hq1.out; refine wp_region_held_drew (S := fun u => Below w2.heap.size W3 u) (by kernel_rfl) hb (fun zg => ?_); refine tkH 0 zg ?_; refine tkH 1 zg ?_; refine tkF 2 zg ?_ (fun u hSw => (hAh.out u hSw).at 1 rfl); refine tkH 3 zg ?_; refine tkF 4 zg ?_ (fun u hSw => (hAh.out u hSw).at 2 rfl); refine tkH 5 zg ?_; refine tkF 6 zg ?_ (fun u hSw => (hAh.out u hSw).at 0 rfl); refine tkH 7 zg ?_; refine tkH 10 zg ?_; refine tkF 11 zg ?_ (fun u hSw => (hAh.out u hSw).at 0 rfl); refine wpAnyH_ready (rs := [8, 12]) (by kernel_rfl) (by simp) ?_; refine (AllReadyH.cons rfl (fun K hK => ?_) (AllReadyH.cons rfl (fun K hK => ?_) AllReadyH.nil))
  ·go_simp
   have hba : Below W3.heap.size W3 (World.drew (World.alloc W3 (.cells #[.bool dur, .bool red, .bool !key.toList.isEmpty] 4))) := (aad ((qz W3.heap.size W3).alloc (qj _) (.cells #[.bool dur, .bool red, .bool !key.toList.isEmpty] 4))); have s19 : Slc ajf 1 (World.drew (World.alloc W3 (.cells #[.bool dur, .bool red, .bool !key.toList.isEmpty] 4))) (.slice (some ⟨(World.heap W3).size, 0, none⟩) 3 3) [dur, red, !key.toList.isEmpty] := (alg W3 dur red (!key.toList.isEmpty)).pure (abn _); have hb' := hb'.trans (hba.mono hb'.size); generalize (World.drew (World.alloc W3 (.cells #[.bool dur, .bool red, .bool !key.toList.isEmpty] 4))) = V1 at *; have hb := hb'.mono hq1.out; refine hK.out _ _ hb (fun zg => ?_); clear hK K; (try simp only [Act.put, lsT, lsZ, lsS]); refine wpAnyH_ready (rs := [9, 12]) (by kernel_rfl) (by simp) ?_; refine (AllReadyH.cons rfl (fun K hK => ?_) (AllReadyH.cons rfl (fun K hK => ?_) AllReadyH.nil))
   ·go_simp
    go_at_call 166; refine (ag1 _ _ _ s19 (by simp)).mono ?_; rintro e w4 ⟨he, hB4⟩; rw [hn1h.out] at he; subst he; have hb' := hb'.trans (hB4.mono hb'.size); have hb := hb'.mono hq1.out; refine hK.out _ _ hb (fun zg => ?_); clear hK K; (try simp only [Act.put, lsT, lsZ, lsS]); refine aai 12 rfl (fun K hK => ?_); go_simp; have hba : Below w4.heap.size w4 (World.alloc w4 (.cells #[.string key] 9)) := ((qz w4.heap.size w4).alloc (qj _) (.cells #[.string key] 9)); have s23 : Slc abv 1 (World.alloc w4 (.cells #[.string key] 9)) (.slice (some ⟨(World.heap w4).size, 0, none⟩) 1 1) [key] := ag2 w4 key; have hb' := hb'.trans (hba.mono hb'.size); generalize (World.alloc w4 (.cells #[.string key] 9)) = V2 at *; have hb := hb'.mono hq1.out; exact alh
   ·go_simp
    have hba : Below V1.heap.size V1 (World.alloc V1 (.cells #[.string key] 9)) := ((qz V1.heap.size V1).alloc (qj _) (.cells #[.string key] 9)); have s23 : Slc abv 1 (World.alloc V1 (.cells #[.string key] 9)) (.slice (some ⟨(World.heap V1).size, 0, none⟩) 1 1) [key] := ag2 V1 key; have s19 := s19.pure hba; have hb' := hb'.trans (hba.mono hb'.size); generalize (World.alloc V1 (.cells #[.string key] 9)) = V2 at *; exact aji
  ·go_simp
   have hba : Below W3.heap.size W3 (World.drew (World.alloc W3 (.cells #[.string key] 9))) := (aad ((qz W3.heap.size W3).alloc (qj _) (.cells #[.string key] 9))); have s23 : Slc abv 1 (World.drew (World.alloc W3 (.cells #[.string key] 9))) (.slice (some ⟨(World.heap W3).size, 0, none⟩) 1 1) [key] := (ag2 W3 key).pure (abn _); have hb' := hb'.trans (hba.mono hb'.size); generalize (World.drew (World.alloc W3 (.cells #[.string key] 9))) = V1 at *; have hb := hb'.mono hq1.out; refine hK.out _ _ hb (fun zg => ?_); clear hK K; (try simp only [Act.put, lsT, lsZ, lsS]); refine aai 8 rfl (fun K hK => ?_); go_simp; have hba : Below V1.heap.size V1 (World.alloc V1 (.cells #[.bool dur, .bool red, .bool !key.toList.isEmpty] 4)) := ((qz V1.heap.size V1).alloc (qj _) (.cells #[.bool dur, .bool red, .bool !key.toList.isEmpty] 4)); have s19 : Slc ajf 1 (World.alloc V1 (.cells #[.bool dur, .bool red, .bool !key.toList.isEmpty] 4)) (.slice (some ⟨(World.heap V1).size, 0, none⟩) 3 3) [dur, red, !key.toList.isEmpty] := alg V1 dur red (!key.toList.isEmpty); have s23 := s23.pure hba; have hb' := hb'.trans (hba.mono hb'.size); generalize (World.alloc V1 (.cells #[.bool dur, .bool red, .bool !key.toList.isEmpty] 4)) = V2 at *; exact aji
 case rest =>
  obtain ⟨r5, Q5, O5, hb⟩ := hcut; obtain ⟨ra5, rc5, rfl⟩ := aap O5; have A5 := hAh.out _ hb; obtain ⟨a0, a1, a2, a3, a4, a5, a6, a7, a8⟩ := A5.a9; have hTc := hTq.trans (hb.mono (Nat.le_of_lt hpb.out)); have hRc := qq (fun (u : World) (h : Below w2.heap.size W3 u) => R2W.out u h); have htx := qq (show px.text = ⟨(l5 ++ (if fl2 px = 0 then [] else part (ahf px))).toArray⟩ by unfold Pr.text Pr.bytes; rw [hb1.out, hl5h.out]); have hf2 := fun (b : Bool) (hb : b = decide (tk = 168)) => show acy [!mid.toList.isEmpty, b] = fl2 px by rw [hpxh.out]; exact bcw key mid dur red b _ (by rw [(ate : (VT.mk tk tn ts (.slice tka tks.length tkc) (.slice tla tl.length tlc) tks tl).v.kind = tk)]; exact hb)
  have hb2 := qq (show ahf px = [4, 3, 0, UInt8.ofNat (fl2 px)] ++ stx mid ++ (if tk = 168 then (VT.mk tk tn ts (.slice tka tks.length tkc) (.slice tla tl.length tlc) tks tl).v.bytes else []) by rw [hpxh.out]; unfold ahf; simp only [(ate : (VT.mk tk tn ts (.slice tka tks.length tkc) (.slice tla tl.length tlc) tks tl).v.kind = tk)]); have hf2h := qq hf2; clear hf2; by_cases hk : tk = 168
  ·subst hk
   have hav := qq (show (VT.mk 168 tn ts (.slice tka tks.length tkc) (.slice tla tl.length tlc) tks tl).v.chk = 0 by
    rcases happ.out with e | e
    ·have := congrArg V.kind e
     rw [ate] at this; exact jp this (by decide)
    ·exact e.2)
   have hnf := hf2h.out true rfl; obtain ⟨n2, hn2⟩ := zz (acy [!mid.toList.isEmpty, true]); have hn2h := qq hn2; have hn2l := qq (show n2 < 256 by have := aff [!mid.toList.isEmpty, true]; rw [hn2] at this; simp at this; omega); have hfn := qq (show fl2 px = n2 by rw [← hn2]; exact hnf.symm); have hmb := qq (show (bits BinOp.and IntKind.u64 (n2 : Int) 2 != 0) = true by rw [← hn2]; exact bcy _ _); have hnz : ((n2 : Int) != 0) = true := by rw [← hn2]; cases mid.toList.isEmpty <;> rfl
   have hny : ¬ (n2 : Int) = 0 := by rw [← hn2]; cases mid.toList.isEmpty <;> decide
   have sb2 := ahh wc (!mid.toList.isEmpty) true; have hBb := (qz wc.heap.size wc).alloc (qj _) (.cells #[.bool !mid.toList.isEmpty, .bool true] 4); have hTb := hTc.trans (hBb.mono hTc.size); have A6 := A5.pure hBb; have Q6 := Q5.pure hBb; have O6 := O5.pure hBb; have R6 := (hRc.out _ hb).pure hBb; clear hn2 hnf; go_upto_region 7 with (go_at_call 166; refine (ag1 _ _ _ sb2 (by simp)).mono ?_; rintro e w7 ⟨he, hB7⟩; rw [hn2h.out] at he; subst he; have A7 := A6.pure hB7; have Q7 := Q6.pure hB7; have O7 := O6.pure hB7; have R7 := R6.pure hB7; have hT7 := hTb.trans (hB7.mono hTb.size)); clear a0 a1 a2 a3 a4 a5 a6 a7 a8; have hq1w := qq (show w2.heap.size ≤ w7.heap.size by have := Q7.lt; omega); obtain ⟨a0, a1, a2, a3, a4, a5, a6, a7, a8⟩ := A7.a9; have hBs := (qz w7.heap.size w7).alloc (qj _) (.cells #[.string mid] 9); have A8 := A7.pure hBs; have Q8 := Q7.pure hBs; have O8 := O7.pure hBs; have R8 := R7.pure hBs; have s8 := ag2 w7 mid; have hT8 := hT7.trans (hBs.mono hT7.size); have hTb8 := hT.pure hT8; have hck : true = true → (VT.mk 168 tn ts (.slice tka tks.length tkc) (.slice tla tl.length tlc) tks tl).v.chk = 0 := fun _ => hav.out
   go_upto_region 9 with (go_at_call 162; refine (ajh _ w.heap.size w2.heap.size _ _ l5 mid n2 Q8 O8 s8 hmid.out hn2l.out (by have := hl5z.out; omega) key mid dur red 168 tn ts tka tkc tla tlc tks tl _ true A8 R8 hTb8 hmb.out hck).mono ?_; rintro e w9 ⟨rfl, r9, Q9, O9, hB9⟩; have hT9 := hT8.trans (hB9.mono (Nat.le_of_lt hpb.out))); obtain ⟨l9, hl9⟩ := zz (l5 ++ part ([4, 3, 0, UInt8.ofNat n2] ++ stx mid ++ (if true = true then (VT.mk 168 tn ts (.slice tka tks.length tkc) (.slice tla tl.length tlc) tks tl).v.bytes else []))); have hl9h := qq hl9; have O9 := O9.cast hl9; obtain ⟨ra9, rc9, rfl⟩ := aap O9; have hq9 := Q9.at 0 rfl; have cv := aif w9 _ l9 (O9.slc aaa); clear hl9; have hfin := qq (show px.text = ⟨l9.toArray⟩ by rw [htx.out, hfn.out, qk (by have := hny; omega), hb2.out, hfn.out, ← hl9h.out]; rfl); go_wp2; go_ret2; exact ⟨by rw [hfin.out]; rfl, hT9⟩
  ·have h3 : decide (tk = 168) = false := qg hk
   have h4 : (tk == 168) = false := ju.2 hk; have hnf := hf2h.out false h3.symm; have hk0 := qq hk; clear hk; by_cases hm : mid.size = 0
   ·obtain rfl : mid = ⟨#[]⟩ := af5 hm
    have hnf : acy [false, false] = fl2 px := by rw [show (⟨#[]⟩ : ByteArray).toList.isEmpty = true from agt rfl] at hnf; exact hnf
    clear hm; obtain ⟨n2, hn2⟩ := zz (acy [false, false]); have hn2h := qq hn2; have hn2l := qq (show n2 < 256 by have := aff [false, false]; rw [hn2] at this; simp at this; omega); have hfn := qq (show fl2 px = n2 by rw [← hn2]; exact hnf.symm); have hmb := qq (show (bits BinOp.and IntKind.u64 (n2 : Int) 2 != 0) = false by rw [← hn2]; exact bcy _ _); have hnz : ((n2 : Int) != 0) = false := by rw [← hn2]; rfl
    have hny : (n2 : Int) = 0 := by rw [← hn2]; decide
    have sb2 := ahh wc false false; have hBb := (qz wc.heap.size wc).alloc (qj _) (.cells #[.bool false, .bool false] 4); have hTb := hTc.trans (hBb.mono hTc.size); have A6 := A5.pure hBb; have Q6 := Q5.pure hBb; have O6 := O5.pure hBb; have R6 := (hRc.out _ hb).pure hBb; clear hn2 hnf; go_upto_region 7 with (go_at_call 166; refine (ag1 _ _ _ sb2 (by simp)).mono ?_; rintro e w7 ⟨he, hB7⟩; rw [hn2h.out] at he; subst he; have A7 := A6.pure hB7; have Q7 := Q6.pure hB7; have O7 := O6.pure hB7; have R7 := R6.pure hB7; have hT7 := hTb.trans (hB7.mono hTb.size)); clear a0 a1 a2 a3 a4 a5 a6 a7 a8; have hq7 := Q7.at 0 rfl; have cv := aif w7 _ l5 (O7.slc aaa); go_wp2; go_ret2; exact ⟨by rw [htx.out, hfn.out, qw (by have := hny; omega), List.append_nil]; rfl, hT7⟩
   ·have h1 : ¬ mid.toList = [] := fun e => hm (by rw [← acr, e]; rfl)
    have h2 := aeg (show 0 < mid.size by omega); rw [h2] at hnf; have hnf : acy [true, false] = fl2 px := hnf; clear hm; obtain ⟨n2, hn2⟩ := zz (acy [true, false]); have hn2h := qq hn2; have hn2l := qq (show n2 < 256 by have := aff [true, false]; rw [hn2] at this; simp at this; omega); have hfn := qq (show fl2 px = n2 by rw [← hn2]; exact hnf.symm); have hmb := qq (show (bits BinOp.and IntKind.u64 (n2 : Int) 2 != 0) = false by rw [← hn2]; exact bcy _ _); have hnz : ((n2 : Int) != 0) = true := by rw [← hn2]; rfl
    have hny : ¬ (n2 : Int) = 0 := by rw [← hn2]; decide
    have sb2 := ahh wc true false; have hBb := (qz wc.heap.size wc).alloc (qj _) (.cells #[.bool true, .bool false] 4); have hTb := hTc.trans (hBb.mono hTc.size); have A6 := A5.pure hBb; have Q6 := Q5.pure hBb; have O6 := O5.pure hBb; have R6 := (hRc.out _ hb).pure hBb; clear hn2 hnf; go_upto_region 7 with (go_at_call 166; refine (ag1 _ _ _ sb2 (by simp)).mono ?_; rintro e w7 ⟨he, hB7⟩; rw [hn2h.out] at he; subst he; have A7 := A6.pure hB7; have Q7 := Q6.pure hB7; have O7 := O6.pure hB7; have R7 := R6.pure hB7; have hT7 := hTb.trans (hB7.mono hTb.size)); clear a0 a1 a2 a3 a4 a5 a6 a7 a8; have hq1w := qq (show w2.heap.size ≤ w7.heap.size by have := Q7.lt; omega); obtain ⟨a0, a1, a2, a3, a4, a5, a6, a7, a8⟩ := A7.a9; have hBs := (qz w7.heap.size w7).alloc (qj _) (.cells #[.string mid] 9); have A8 := A7.pure hBs; have Q8 := Q7.pure hBs; have O8 := O7.pure hBs; have R8 := R7.pure hBs; have s8 := ag2 w7 mid; have hT8 := hT7.trans (hBs.mono hT7.size); have hTb8 := hT.pure hT8; have hck : false = true → (VT.mk tk tn ts (.slice tka tks.length tkc) (.slice tla tl.length tlc) tks tl).v.chk = 0 := fun e => jp e (by decide)
    go_upto_region 9 with (go_at_call 162; refine (ajh _ w.heap.size w2.heap.size _ _ l5 mid n2 Q8 O8 s8 hmid.out hn2l.out (by have := hl5z.out; omega) key mid dur red tk tn ts tka tkc tla tlc tks tl _ false A8 R8 hTb8 hmb.out hck).mono ?_; rintro e w9 ⟨rfl, r9, Q9, O9, hB9⟩; have hT9 := hT8.trans (hB9.mono (Nat.le_of_lt hpb.out))); obtain ⟨l9, hl9⟩ := zz (l5 ++ part ([4, 3, 0, UInt8.ofNat n2] ++ stx mid ++ (if false = true then (VT.mk tk tn ts (.slice tka tks.length tkc) (.slice tla tl.length tlc) tks tl).v.bytes else []))); have hl9h := qq hl9; have O9 := O9.cast hl9; obtain ⟨ra9, rc9, rfl⟩ := aap O9; have hq9 := Q9.at 0 rfl; have cv := aif w9 _ l9 (O9.slc aaa); clear hl9; have hfin := qq (show px.text = ⟨l9.toArray⟩ by rw [htx.out, hfn.out, qk (by have := hny; omega), hb2.out, hfn.out, ← hl9h.out]; rw [qk hk0.out, qk (by decide)]); go_wp2; go_ret2; exact ⟨by rw [hfin.out]; rfl, hT9⟩
end Go.Proofs.YtgnaifhmcllnlaaGreatDoor
