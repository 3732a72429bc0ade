/- Properties: the closure 'part' in the program's Put. Conditions: utf8's tables are laid. Written by gen_prE.py. (Texts joined.) -/
import Derived.Test.YtgnaifhmcllnlaaGreatDoorB03
import Derived.ProofKit
import Derived.OpenShut
import Derived.Deep.Slices
set_option maxRecDepth 100000
set_option maxHeartbeats 12800000
set_option linter.unusedSimpArgs false
set_option linter.unusedVariables false
namespace Go.Proofs.YtgnaifhmcllnlaaGreatDoor
open Go.RowKit Tryz
inductive V.Kfit : V → Prop
 | mk {k n : Int} {s : ByteArray} {ks : List ByteArray} {l : List V} : ks.length ≤ 1000000 → (∀ t ∈ l, V.Kfit t) → V.Kfit (.mk k n s ks l)
theorem ay7 {F D : Int} {G : ByteArray} {kv lv : Value} {ks : List ByteArray} {l : List VT} (h : ks.length ≤ 1000000) (I : ∀ j, (A : j < l.length) → V.Kfit l[j].v) : V.Kfit (VT.mk F D G kv lv ks l).v := by
 rw [VT.v_eq]
 refine .mk h (fun t J => ?_)
 obtain ⟨x, E, rfl⟩ := jv.1 J
 obtain ⟨j, A, rfl⟩ := List.getElem_of_mem E
 exact I j A
theorem aou (t : VT) : ∀ (P : Nat → Prop) (w : World) (n : Int), Rd P w t → 0 ≤ n → n ≤ 1000000 → Calls prog 130 #[t.arg, .int .i64 n] w fun e w' => (∃ m : Int, e = .returned (.int .i64 m) ∧ -1000000 ≤ m ∧ m ≤ n ∧ (0 ≤ m → V.Kfit t.v)) ∧ Below w.heap.size w w' := by
 induction t using VT.ind with
 | h t ih =>
  intro P w n hR bj bc; obtain ⟨W, tn, D, z, Y, la, Z, ks, l, rfl, hK, hL, aw, bi⟩ := hR.open; rw [VT.arg_mk]; have ac : ∀ x ∈ l, Rd P w x := hR.sub
  have al : ∀ x ∈ l, ∀ (P : Nat → Prop) (w : World) (n : Int), Rd P w x → 0 ≤ n → n ≤ 1000000 → Calls prog 130 #[x.arg, .int .i64 n] w fun e w' => (∃ m : Int, e = .returned (.int .i64 m) ∧ -1000000 ≤ m ∧ m ≤ n ∧ (0 ≤ m → V.Kfit x.v)) ∧ Below w.heap.size w w' := ih
  clear ih hR aw; have ay := qq al; have am := qq ac; clear al ac; have U := (qz w.heap.size w).alloc (qj _) (.cells #[.int .u8 W, .int .u64 tn, .string D, .slice z ks.length Y, .slice la l.length Z] 56); have M := Blk.new w [.int .u8 W, .int .u64 tn, .string D, .slice z ks.length Y, .slice la l.length Z] 56; have c2 := M.at 2 rfl; have c3 := M.at 3 rfl; have c4 := M.at 4 rfl; by_cases aa : n < (D.size : Int)
  ·have I : decide (n < (D.size : Int)) = true := qp aa
   go_enter func130, ntmps130; go_wp2; go_ret; exact ⟨⟨-1, rfl, by omega, by omega, fun h => jp h (by omega)⟩, U⟩
  by_cases ab : n < (ks.length : Int)
  ·have I : decide (n < (D.size : Int)) = false := qg aa
   have G : decide (n < (ks.length : Int)) = true := qp ab; go_enter func130, ntmps130; go_wp2; go_ret; exact ⟨⟨-1, rfl, by omega, by omega, fun h => jp h (by omega)⟩, U⟩
  have I : decide (n < (D.size : Int)) = false := qg aa; have G : decide (n < (ks.length : Int)) = false := qg ab; have aq := qq (show ks.length ≤ 1000000 by omega); by_cases hM : n - D.size - ks.length < -1000000000
  ·omega
  go_enter func130, ntmps130; go_wp2; clear I G; go_loopw [1, 5] (fun s1 F wr => ∃ (k : Nat) (m : Int), k ≤ ks.length ∧ F = .int .i64 k ∧ s1 = .int .i64 m ∧ -1000000 ≤ m ∧ m ≤ n ∧ Blk wr w.heap.size [.int .u8 W, .int .u64 tn, .string D, .slice z ks.length Y, .slice la l.length Z] ∧ Below w.heap.size w wr) (fun _ F _ => ks.length - (intOf F).toNat)
  case atStart => exact ⟨0, _, by omega, rfl, rfl, by omega, by omega, M, U⟩
  case round =>
   clear c2 c3 c4 M U; obtain ⟨k, m, hk, rfl, rfl, J, K, b, A⟩ := hrel; have c3 := b.at 3 rfl; by_cases ah : k < ks.length
   ·have I : (k : Int) < (ks.length : Int) := by omega
    have ak := hK.pure A; obtain ⟨kg, az, rfl⟩ := ak.addrB ah; have kq := ak.get k ah 0 _ rfl; rw [Nat.mul_one, Nat.add_zero] at kq; obtain ⟨kx, ag⟩ := qx (ks[k]); rw [ag] at kq; clear ag; by_cases hb : m < (kx.size : Int)
    ·have G : decide (m < (kx.size : Int)) = true := qp hb
     go_wp2; go_ret; exact ⟨⟨-1, rfl, by omega, by omega, fun h => jp h (by omega)⟩, A⟩
    ·have G : decide (m < (kx.size : Int)) = false := qg hb
     go_wp2; go_roundw
     case rel => exact ⟨k + 1, m - kx.size, by omega, by go_num, by go_num, by omega, by omega, b, A⟩
     case measure => simp [intOf]; omega
   ·obtain rfl : k = ks.length := by omega
    go_wp2; go_loopw [1, 6] (fun s1 F wr => ∃ (k : Nat) (m : Int), k ≤ l.length ∧ F = .int .i64 k ∧ s1 = .int .i64 m ∧ -1000000 ≤ m ∧ m ≤ n ∧ Blk wr w.heap.size [.int .u8 W, .int .u64 tn, .string D, .slice z ks.length Y, .slice la l.length Z] ∧ Below w.heap.size w wr ∧ Hid (0 ≤ m → ∀ j, (N : j < l.length) → j < k → V.Kfit l[j].v)) (fun _ F _ => l.length - (intOf F).toNat)
    case atStart => exact ⟨0, _, by omega, rfl, rfl, J, K, b, A, qq (fun _ j _ h => jp h (by omega))⟩
    case round =>
     clear c3 b A J K; obtain ⟨E, m2, a0, rfl, rfl, J, K, b, A, ad⟩ := hrel; have c4 := b.at 4 rfl; by_cases O : E < l.length
     ·have I : (E : Int) < (l.length : Int) := by omega
      by_cases an : m2 < 0
      ·have G : decide (0 ≤ m2) = false := qg (by omega)
       go_wp2; go_ret; exact ⟨⟨m2, rfl, J, K, fun h => jp h (by omega)⟩, A⟩
      ·have hm : 0 ≤ m2 := by omega
       have G : decide (0 ≤ m2) = true := qp hm; have af := hL.pure A; obtain ⟨g, off, rfl⟩ := af.addrB O; have ae := (am.out l[E] (qy O)).pure A; obtain ⟨xk, xn, xs, a1, bf, bd, bg, bk, bb, bh, xl, hx, q0, q1, q2, q3, q4⟩ := ae4 af O ae; have hi := ay.out l[E] (qy O) P _ m2 ae hm (by omega); rw [hx, VT.arg_mk] at hi; have av := qq hi; have au := qq hx; clear hi hx an; go_wp2_with (go_at_call 130; (with_reducible refine av.out.mono ?_); rintro e w1 ⟨⟨y, rfl, ax, ba, aj⟩, ai⟩; have ao := qq aj; clear aj; have ar := A.trans (ai.mono A.size)); go_roundw
       case rel => exact ⟨E + 1, y, by omega, by go_num, rfl, ax, by omega, b.pure ai, ar, qq (fun h0 j N I => by
        rcases Nat.lt_or_ge j E with h' | h'
        ·exact ad.out hm j N h'
        ·obtain rfl : j = E := by omega
         rw [au.out]; exact ao.out h0)⟩
       case measure => simp [intOf]; omega
     ·obtain rfl : E = l.length := by omega
      go_wp2; go_ret; exact ⟨⟨m2, rfl, J, K, fun h => ay7 aq.out (fun j N => ad.out h j N N)⟩, A⟩
theorem aq9 (t : VT) (P : Nat → Prop) (w : World) (hR : Rd P w t) :
 Calls prog 74 #[t.arg] w fun e w' => (∃ b : Bool, e = .returned (.bool b) ∧ (b = true → 0 ≤ t.v.cnt 400 ∧ V.Kfit t.v)) ∧ Below w.heap.size w w' := by
 have Z := hR
 obtain ⟨K, O, U, N, M, W, J, ks, l, rfl, hK, hL, ae, af⟩ := hR.open
 have E := (qz w.heap.size w).alloc (qj _) (.cells #[.int .u8 K, .int .u64 O, .string U, .slice N ks.length M, .slice W l.length J] 56)
 have z := Blk.new w [.int .u8 K, .int .u64 O, .string U, .slice N ks.length M, .slice W l.length J] 56
 have F := as3 _ P _ 400 (Z.pure E) (by omega) (by omega)
 have G := fun (u : World) (hu : Below w.heap.size w u) => am9 _ P u 40 (Z.pure hu) (by omega)
 have hs := fun (u : World) (hu : Below w.heap.size w u) => aou _ P u 20000 (Z.pure hu) (by omega) (by omega)
 obtain ⟨c0, c1, c2, c3, c4⟩ := z.a5
 obtain ⟨r, hr⟩ := qx ((VT.mk K O U (.slice N ks.length M) (.slice W l.length J) ks l).v.cnt 400)
 obtain ⟨d, aa⟩ := qx ((VT.mk K O U (.slice N ks.length M) (.slice W l.length J) ks l).v.deep 40)
 rw [hr] at F ⊢
 rw [aa] at G
 simp only [VT.arg_mk] at F G hs ⊢
 have ab : ∀ u : World, Below w.heap.size w u → Calls prog 129 #[.agg #[.int .u8 K, .int .u64 O, .string U, .slice N ks.length M, .slice W l.length J], .int .i64 40] u fun e w' => e = .returned (.bool d) ∧ Below u.heap.size u w' := G
 have F := qq F
 have G := qq ab
 have hs := qq hs
 clear hr aa hR Z ae af ab
 by_cases hz : r < 0
 ·have h2 : decide (r < 0) = true := qp hz
  go_enter func74, ntmps74; go_wp2_with (first | (go_at_call 128; (with_reducible refine F.out.mono ?_); rintro e w1 ⟨rfl, D⟩; have A := E.trans (D.mono E.size))); go_ret; exact ⟨⟨false, rfl, fun h => jp h (by simp)⟩, A⟩
 ·have h2 : decide (r < 0) = false := qg hz
  cases d
  ·go_enter func74, ntmps74
   go_wp2_with (first | (go_at_call 128; (with_reducible refine F.out.mono ?_); rintro e w1 ⟨rfl, D⟩; have A := E.trans (D.mono E.size); have k1 := z.pure D; obtain ⟨c0, c1, c2, c3, c4⟩ := k1.a5) | (go_at_call 129; (with_reducible refine (G.out _ A).mono ?_); rintro e w2 ⟨rfl, Y⟩; have I := A.trans (Y.mono A.size); have k2 := (z.pure D).below Y (by have := D.size; simp at this; omega); obtain ⟨c0, c1, c2, c3, c4⟩ := k2.a5) | (go_at_call 130; (with_reducible refine (hs.out _ I).mono ?_); rintro e w3 ⟨⟨m, rfl, -, -, ac⟩, ah⟩; have ad := qq ac; clear ac; have ag := I.trans (ah.mono I.size))); go_ret; exact ⟨⟨_, rfl, fun h => ⟨by omega, ad.out (qt h)⟩⟩, ag⟩
  ·go_enter func74, ntmps74
   go_wp2_with (first | (go_at_call 128; (with_reducible refine F.out.mono ?_); rintro e w1 ⟨rfl, D⟩; have A := E.trans (D.mono E.size); have k1 := z.pure D; obtain ⟨c0, c1, c2, c3, c4⟩ := k1.a5) | (go_at_call 129; (with_reducible refine (G.out _ A).mono ?_); rintro e w2 ⟨rfl, Y⟩; have I := A.trans (Y.mono A.size))); go_ret; exact ⟨⟨false, rfl, fun h => jp h (by simp)⟩, I⟩
theorem bbf (k n : Int) (s : ByteArray) (kv lv : Value) (ks : List ByteArray) (l : List VT) (E G : Int) (F : ByteArray) (J I : Value) (A : List ByteArray) (D : List VT) :
 (VT.mk k n s kv lv ks l).v = (VT.mk E G F J I A D).v ↔ k = E ∧ n = G ∧ s = F ∧ ks = A ∧ l.map VT.v = D.map VT.v := by
 rw [VT.v_eq, VT.v_eq]
 exact Iff.of_eq (V.mk.injEq ..)
theorem acd {a b : ByteArray} (h : a ≠ b) : ¬ a.toList = b.toList := by
 intro e
 apply h
 have : a.data.toList = b.data.toList := by rw [ByteArray.toList_eq, ByteArray.toList_eq] at e; exact e
 cases a; cases b; simp only [ByteArray.mk.injEq]; exact Array.toList_inj.1 this
theorem bfq (t : VT) : ∀ (u : VT) (P P2 : Nat → Prop) (w : World), Rd P w t → Rd P2 w u → Calls prog 111 #[t.arg, u.arg] w fun e w' => (∃ b : Bool, e = .returned (.bool b) ∧ (b = true ↔ t.v = u.v)) ∧ Below w.heap.size w w' := by
 induction t using VT.ind with
 | h t ih =>
  intro u P P2 w hR bg; have bn : ∀ x ∈ t.l, Rd P w x := hR.sub
  have bl : ∀ x ∈ u.l, Rd P2 w x := bg.sub
  obtain ⟨A, D, E, J, I, K, G, ks, l, rfl, hK, hL, cc, ce⟩ := hR.open; obtain ⟨uk, un, us, Y, U, W, N, O, F, rfl, bq, bu, b3, bx⟩ := bg.open; simp only [VT.arg_mk, bbf]; have bw : ∀ x ∈ l, ∀ (u : VT) (P P2 : Nat → Prop) (w : World), Rd P w x → Rd P2 w u → Calls prog 111 #[x.arg, u.arg] w fun e w' => (∃ b : Bool, e = .returned (.bool b) ∧ (b = true ↔ x.v = u.v)) ∧ Below w.heap.size w w' := ih
  have bm : ∀ x ∈ l, Rd P w x := bn
  have bi : ∀ x ∈ F, Rd P2 w x := bl
  have b5 := qq bw; have bj := qq bm; have bh := qq bi; clear ih bw hR bg bn bl bm bi b3 bx; by_cases e : A = uk
  rotate_left 1
  ·have h1 : (A != uk) = true := bne_iff_ne.2 e
   have ab := qq (e); clear e; have z := ((qz w.heap.size w).alloc (qj _) (.cells #[.int .u8 A, .int .u64 D, .string E, .slice J ks.length I, .slice K l.length G] 56)); have M := z.alloc z.size (.cells #[.int .u8 uk, .int .u64 un, .string us, .slice Y O.length U, .slice W F.length N] 56); have b0 := (Blk.new w [.int .u8 A, .int .u64 D, .string E, .slice J ks.length I, .slice K l.length G] 56).alloc (.cells #[.int .u8 uk, .int .u64 un, .string us, .slice Y O.length U, .slice W F.length N] 56); have Z := Blk.new (w.alloc (.cells #[.int .u8 A, .int .u64 D, .string E, .slice J ks.length I, .slice K l.length G] 56)) [.int .u8 uk, .int .u64 un, .string us, .slice Y O.length U, .slice W F.length N] 56; rw [show (w.alloc (.cells #[.int .u8 A, .int .u64 D, .string E, .slice J ks.length I, .slice K l.length G] 56)).heap.size = w.heap.size + 1 by simp] at Z; obtain ⟨c0, c1, c2, c3, c4⟩ := b0.a5; obtain ⟨d0, d1, d2, d3, d4⟩ := Z.a5; go_enter func111, ntmps111; go_wp2; go_ret; exact ⟨⟨false, rfl, ⟨fun h => jp h (by simp), fun h => jp h.1 ab.out⟩⟩, M⟩
  subst e; by_cases e : D = un
  rotate_left 1
  ·have h1 : (D != un) = true := bne_iff_ne.2 e
   have ab := qq (e); clear e; have z := ((qz w.heap.size w).alloc (qj _) (.cells #[.int .u8 A, .int .u64 D, .string E, .slice J ks.length I, .slice K l.length G] 56)); have M := z.alloc z.size (.cells #[.int .u8 A, .int .u64 un, .string us, .slice Y O.length U, .slice W F.length N] 56); have b0 := (Blk.new w [.int .u8 A, .int .u64 D, .string E, .slice J ks.length I, .slice K l.length G] 56).alloc (.cells #[.int .u8 A, .int .u64 un, .string us, .slice Y O.length U, .slice W F.length N] 56); have Z := Blk.new (w.alloc (.cells #[.int .u8 A, .int .u64 D, .string E, .slice J ks.length I, .slice K l.length G] 56)) [.int .u8 A, .int .u64 un, .string us, .slice Y O.length U, .slice W F.length N] 56; rw [show (w.alloc (.cells #[.int .u8 A, .int .u64 D, .string E, .slice J ks.length I, .slice K l.length G] 56)).heap.size = w.heap.size + 1 by simp] at Z; obtain ⟨c0, c1, c2, c3, c4⟩ := b0.a5; obtain ⟨d0, d1, d2, d3, d4⟩ := Z.a5; go_enter func111, ntmps111; go_wp2; go_ret; exact ⟨⟨false, rfl, ⟨fun h => jp h (by simp), fun h => jp h.2.1 ab.out⟩⟩, M⟩
  subst e; by_cases e : E = us
  rotate_left 1
  ·have h1 : ¬ E.toList = us.toList := acd e
   have ab := qq (e); clear e; have z := ((qz w.heap.size w).alloc (qj _) (.cells #[.int .u8 A, .int .u64 D, .string E, .slice J ks.length I, .slice K l.length G] 56)); have M := z.alloc z.size (.cells #[.int .u8 A, .int .u64 D, .string us, .slice Y O.length U, .slice W F.length N] 56); have b0 := (Blk.new w [.int .u8 A, .int .u64 D, .string E, .slice J ks.length I, .slice K l.length G] 56).alloc (.cells #[.int .u8 A, .int .u64 D, .string us, .slice Y O.length U, .slice W F.length N] 56); have Z := Blk.new (w.alloc (.cells #[.int .u8 A, .int .u64 D, .string E, .slice J ks.length I, .slice K l.length G] 56)) [.int .u8 A, .int .u64 D, .string us, .slice Y O.length U, .slice W F.length N] 56; rw [show (w.alloc (.cells #[.int .u8 A, .int .u64 D, .string E, .slice J ks.length I, .slice K l.length G] 56)).heap.size = w.heap.size + 1 by simp] at Z; obtain ⟨c0, c1, c2, c3, c4⟩ := b0.a5; obtain ⟨d0, d1, d2, d3, d4⟩ := Z.a5; go_enter func111, ntmps111; go_wp2; go_ret; exact ⟨⟨false, rfl, ⟨fun h => jp h (by simp), fun h => jp h.2.2.1 ab.out⟩⟩, M⟩
  subst e; by_cases e : O.length = ks.length
  rotate_left 1
  ·have h1 : ¬ (ks.length : Int) = (O.length : Int) := by omega
   have ab := qq (fun h : ks = O => e (by rw [h])); clear e; have z := ((qz w.heap.size w).alloc (qj _) (.cells #[.int .u8 A, .int .u64 D, .string E, .slice J ks.length I, .slice K l.length G] 56)); have M := z.alloc z.size (.cells #[.int .u8 A, .int .u64 D, .string E, .slice Y O.length U, .slice W F.length N] 56); have b0 := (Blk.new w [.int .u8 A, .int .u64 D, .string E, .slice J ks.length I, .slice K l.length G] 56).alloc (.cells #[.int .u8 A, .int .u64 D, .string E, .slice Y O.length U, .slice W F.length N] 56); have Z := Blk.new (w.alloc (.cells #[.int .u8 A, .int .u64 D, .string E, .slice J ks.length I, .slice K l.length G] 56)) [.int .u8 A, .int .u64 D, .string E, .slice Y O.length U, .slice W F.length N] 56; rw [show (w.alloc (.cells #[.int .u8 A, .int .u64 D, .string E, .slice J ks.length I, .slice K l.length G] 56)).heap.size = w.heap.size + 1 by simp] at Z; obtain ⟨c0, c1, c2, c3, c4⟩ := b0.a5; obtain ⟨d0, d1, d2, d3, d4⟩ := Z.a5; go_enter func111, ntmps111; go_wp2; go_ret; exact ⟨⟨false, rfl, ⟨fun h => jp h (by simp), fun h => jp h.2.2.2.1 ab.out⟩⟩, M⟩
  rw [e] at bq ⊢; have bb := qq e; clear e; by_cases e : F.length = l.length
  rotate_left 1
  ·have h1 : ¬ (l.length : Int) = (F.length : Int) := by omega
   have h2 : ((l.length : Int) != (F.length : Int)) = true := bne_iff_ne.2 h1; have ab := qq (fun h : l.map VT.v = F.map VT.v => e (by have := congrArg List.length h; simpa using this.symm)); clear e; have z := ((qz w.heap.size w).alloc (qj _) (.cells #[.int .u8 A, .int .u64 D, .string E, .slice J ks.length I, .slice K l.length G] 56)); have M := z.alloc z.size (.cells #[.int .u8 A, .int .u64 D, .string E, .slice Y ks.length U, .slice W F.length N] 56); have b0 := (Blk.new w [.int .u8 A, .int .u64 D, .string E, .slice J ks.length I, .slice K l.length G] 56).alloc (.cells #[.int .u8 A, .int .u64 D, .string E, .slice Y ks.length U, .slice W F.length N] 56); have Z := Blk.new (w.alloc (.cells #[.int .u8 A, .int .u64 D, .string E, .slice J ks.length I, .slice K l.length G] 56)) [.int .u8 A, .int .u64 D, .string E, .slice Y ks.length U, .slice W F.length N] 56; rw [show (w.alloc (.cells #[.int .u8 A, .int .u64 D, .string E, .slice J ks.length I, .slice K l.length G] 56)).heap.size = w.heap.size + 1 by simp] at Z; obtain ⟨c0, c1, c2, c3, c4⟩ := b0.a5; obtain ⟨d0, d1, d2, d3, d4⟩ := Z.a5; go_enter func111, ntmps111; go_wp2; go_ret; exact ⟨⟨false, rfl, ⟨fun h => jp h (by simp), fun h => jp h.2.2.2.2 ab.out⟩⟩, M⟩
  rw [e] at bu ⊢; have bd := qq e; clear e; have z := ((qz w.heap.size w).alloc (qj _) (.cells #[.int .u8 A, .int .u64 D, .string E, .slice J ks.length I, .slice K l.length G] 56)); have M := z.alloc z.size (.cells #[.int .u8 A, .int .u64 D, .string E, .slice Y ks.length U, .slice W l.length N] 56); have b0 := (Blk.new w [.int .u8 A, .int .u64 D, .string E, .slice J ks.length I, .slice K l.length G] 56).alloc (.cells #[.int .u8 A, .int .u64 D, .string E, .slice Y ks.length U, .slice W l.length N] 56); have Z := Blk.new (w.alloc (.cells #[.int .u8 A, .int .u64 D, .string E, .slice J ks.length I, .slice K l.length G] 56)) [.int .u8 A, .int .u64 D, .string E, .slice Y ks.length U, .slice W l.length N] 56; rw [show (w.alloc (.cells #[.int .u8 A, .int .u64 D, .string E, .slice J ks.length I, .slice K l.length G] 56)).heap.size = w.heap.size + 1 by simp] at Z; obtain ⟨c0, c1, c2, c3, c4⟩ := b0.a5; obtain ⟨d0, d1, d2, d3, d4⟩ := Z.a5; go_enter func111, ntmps111; go_wp2; go_loopw [5] (fun s5 wr => ∃ (k : Nat), k ≤ ks.length ∧ s5 = .int .i64 k ∧ Hid (ks.take k = O.take k) ∧ Blk wr w.heap.size [.int .u8 A, .int .u64 D, .string E, .slice J ks.length I, .slice K l.length G] ∧ Blk wr (w.heap.size + 1) [.int .u8 A, .int .u64 D, .string E, .slice Y ks.length U, .slice W l.length N] ∧ Below w.heap.size w wr) (fun s5 _ => ks.length - (intOf s5).toNat)
  case atStart => exact ⟨0, by omega, rfl, qq (by simp), b0, Z, M⟩
  case round =>
   clear c0 c1 c2 c3 c4 d0 d1 d2 d3 d4 b0 Z z M; obtain ⟨k, hk, rfl, af, b, b2, hB⟩ := hrel; have c3 := b.at 3 rfl; have d3 := b2.at 3 rfl; by_cases aa : k < ks.length
   ·have h1 : (k : Int) < (ks.length : Int) := by omega
    have ac : k < O.length := by rw [bb.out]; exact aa
    have ar := hK.pure hB; have ah := bq.pure hB; rw [← bb.out] at ah; obtain ⟨kg, ca, rfl⟩ := ar.addrB aa; obtain ⟨vg, b9, rfl⟩ := ah.addrB ac; have kq := ar.get k aa 0 _ rfl; have vq := ah.get k ac 0 _ rfl; rw [Nat.mul_one, Nat.add_zero] at kq vq; obtain ⟨kx, aj⟩ := qx (ks[k]); obtain ⟨vx, ak⟩ := qx (O[k]); rw [aj] at kq; rw [ak] at vq; by_cases e : kx = vx
    rotate_left 1
    ·have h2 : ¬ kx.toList = vx.toList := acd e
     have h3 : (!kx.toList == vx.toList) = true := by rw [ju.2 h2]; rfl
     have ab := qq (fun h : ks = O => e (by rw [← aj, ← ak]; simp [h])); clear e aj ak ar ah; go_wp2; go_region; go_wp2; go_ret; exact ⟨⟨false, rfl, ⟨fun h => jp h (by simp), fun h => jp h.2.2.2.1 ab.out⟩⟩, aad hB⟩
    ·subst e
     have h3 : (!kx.toList == kx.toList) = false := by simp
     have an := qq (show ks.take (k + 1) = O.take (k + 1) by rw [jx aa, jx ac, af.out, aj, ak]); clear aj ak ar ah; go_wp2; go_region; go_wp2; go_roundw
     case rel => exact ⟨k + 1, by omega, by go_num, an, b.drew, b2.drew, aad hB⟩
     case measure => simp [intOf]; omega
   ·obtain rfl : k = ks.length := by omega
    have b8 := qq (show ks = O by have h := af.out; rw [js, List.take_of_length_le (by rw [bb.out]; exact qj _)] at h; exact h); go_wp2; go_loopw [6] (fun s5 wr => ∃ (k : Nat), k ≤ l.length ∧ s5 = .int .i64 k ∧ Hid ((l.map VT.v).take k = (F.map VT.v).take k) ∧ Blk wr w.heap.size [.int .u8 A, .int .u64 D, .string E, .slice J ks.length I, .slice K l.length G] ∧ Blk wr (w.heap.size + 1) [.int .u8 A, .int .u64 D, .string E, .slice Y ks.length U, .slice W l.length N] ∧ Below w.heap.size w wr) (fun s5 _ => l.length - (intOf s5).toNat)
    case atStart => exact ⟨0, by omega, rfl, qq (by simp), b, b2, hB⟩
    case round =>
     clear c3 d3 b b2 hB af hk aa; obtain ⟨k, hk, rfl, af, b, b2, hB⟩ := hrel; have c4 := b.at 4 rfl; have d4 := b2.at 4 rfl; by_cases aa : k < l.length
     ·have h1 : (k : Int) < (l.length : Int) := by omega
      have ac : k < F.length := by rw [bd.out]; exact aa
      have ax := hL.pure hB; have ai := bu.pure hB; rw [← bd.out] at ai; obtain ⟨g, off, rfl⟩ := ax.addrB aa; obtain ⟨g2, ad, rfl⟩ := ai.addrB ac; have br := (bj.out l[k] (qy aa)).pure hB; have bo := (bh.out F[k] (qy ac)).pure hB; have hi := b5.out l[k] (qy aa) F[k] P P2 _ ((bj.out l[k] (qy aa)).pure (aad hB)) ((bh.out F[k] (qy ac)).pure (aad hB)); obtain ⟨xk, xn, xs, av, a0, az, a1, au, al, cd, xl, hx, q0, q1, q2, q3, q4⟩ := ae4 ax aa br; obtain ⟨yk, yn, ys, ao, ay, ba, aq, am, aw, cb, yl, hy, r0, r1, r2, r3, r4⟩ := ae4 ai ac bo; have an := qq (fun e : l[k].v = F[k].v => show (l.map VT.v).take (k + 1) = (F.map VT.v).take (k + 1) by rw [jx (by simpa using aa), jx (by simpa using ac), af.out, zq, zq, e])
      have ab := qq (fun h : l.map VT.v = F.map VT.v => show l[k].v = F[k].v by
       have e1 : (l.map VT.v)[k]? = (F.map VT.v)[k]? := by rw [h]
       rw [List.getElem?_map, List.getElem?_map, List.getElem?_eq_getElem aa, List.getElem?_eq_getElem ac] at e1
       exact Option.some.inj e1)
      obtain ⟨Q, hQ⟩ : ∃ Q : Prop, (l[k].v = F[k].v) = Q := ⟨_, rfl⟩
      rw [hQ] at hi an ab; rw [hx, hy, VT.arg_mk, VT.arg_mk] at hi; have bt := qq hx; have ag := qq hy; have bp := qq ax; have bk := qq ai; clear hx hy hQ br bo ax ai; by_cases hq : Q
      rotate_left 1
      ·have bf := qq (show Calls prog 111 #[.agg #[.int .u8 xk, .int .u64 xn, .string xs, .slice av a0 az, .slice a1 au al], .agg #[.int .u8 yk, .int .u64 yn, .string ys, .slice ao ay ba, .slice aq am aw]] wr.drew (fun e w' => e = .returned (.bool false) ∧ Below wr.drew.heap.size wr.drew w') from hi.mono (by
        rintro e w1 ⟨⟨y, rfl, ag⟩, M⟩; cases y
        ·exact ⟨rfl, M⟩
        ·exact jp (ag.1 rfl) hq))
       have b6 := qq hq; clear hi hq; go_wp2; go_region_held3 (fun w' => w'.cell? ⟨w.heap.size, 4, none⟩ = some (.slice (some ⟨g, off, none⟩) l.length G) ∧ w'.cell? ⟨w.heap.size + 1, 4, none⟩ = some (.slice (some ⟨g2, ad, none⟩) l.length N) ∧ w'.cell? ⟨g, off + k * 5, none⟩ = some (.int .u8 xk) ∧ w'.cell? ⟨g, off + k * 5 + 1, none⟩ = some (.int .u64 xn) ∧ w'.cell? ⟨g, off + k * 5 + 2, none⟩ = some (.string xs) ∧ w'.cell? ⟨g, off + k * 5 + 3, none⟩ = some (.slice av a0 az) ∧ w'.cell? ⟨g, off + k * 5 + 4, none⟩ = some (.slice a1 au al) ∧ w'.cell? ⟨g2, ad + k * 5, none⟩ = some (.int .u8 yk) ∧ w'.cell? ⟨g2, ad + k * 5 + 1, none⟩ = some (.int .u64 yn) ∧ w'.cell? ⟨g2, ad + k * 5 + 2, none⟩ = some (.string ys) ∧ w'.cell? ⟨g2, ad + k * 5 + 3, none⟩ = some (.slice ao ay ba) ∧ w'.cell? ⟨g2, ad + k * 5 + 4, none⟩ = some (.slice aq am aw)) (first | exact ⟨c4, d4, q0, q1, q2, q3, q4, r0, r1, r2, r3, r4⟩ | exact ⟨c5, d5, z0, z1, z2, z3, z4, y0, y1, y2, y3, y4⟩) (first | (go_at_call 111; (with_reducible refine bf.out.mono ?_); rintro e w1 ⟨rfl, M⟩; have bc := (aad hB).trans (M.mono hB.size); have ae := (aad (qz wr.heap.size wr)).trans M; have k1 := b.pure ae; have k2 := b2.pure ae; have c5 := k1.at 4 rfl; have d5 := k2.at 4 rfl; have zz := aoo (bp.out.pure ae) aa; have yy := aoo (bk.out.pure ae) ac; rw [bt.out] at zz; rw [ag.out] at yy; obtain ⟨z0, z1, z2, z3, z4⟩ := zz; obtain ⟨y0, y1, y2, y3, y4⟩ := yy)); go_wp2; go_ret; exact ⟨⟨false, rfl, ⟨fun h => jp h (by simp), fun h => jp (ab.out h.2.2.2.2) b6.out⟩⟩, bc⟩
      ·have bf := qq (show Calls prog 111 #[.agg #[.int .u8 xk, .int .u64 xn, .string xs, .slice av a0 az, .slice a1 au al], .agg #[.int .u8 yk, .int .u64 yn, .string ys, .slice ao ay ba, .slice aq am aw]] wr.drew (fun e w' => e = .returned (.bool true) ∧ Below wr.drew.heap.size wr.drew w') from hi.mono (by
        rintro e w1 ⟨⟨y, rfl, ag⟩, M⟩; cases y
        ·exact jp (ag.2 hq) (by simp)
        ·exact ⟨rfl, M⟩))
       have b4 := qq (an.out hq); clear hi hq; go_wp2; go_region_held3 (fun w' => w'.cell? ⟨w.heap.size, 4, none⟩ = some (.slice (some ⟨g, off, none⟩) l.length G) ∧ w'.cell? ⟨w.heap.size + 1, 4, none⟩ = some (.slice (some ⟨g2, ad, none⟩) l.length N) ∧ w'.cell? ⟨g, off + k * 5, none⟩ = some (.int .u8 xk) ∧ w'.cell? ⟨g, off + k * 5 + 1, none⟩ = some (.int .u64 xn) ∧ w'.cell? ⟨g, off + k * 5 + 2, none⟩ = some (.string xs) ∧ w'.cell? ⟨g, off + k * 5 + 3, none⟩ = some (.slice av a0 az) ∧ w'.cell? ⟨g, off + k * 5 + 4, none⟩ = some (.slice a1 au al) ∧ w'.cell? ⟨g2, ad + k * 5, none⟩ = some (.int .u8 yk) ∧ w'.cell? ⟨g2, ad + k * 5 + 1, none⟩ = some (.int .u64 yn) ∧ w'.cell? ⟨g2, ad + k * 5 + 2, none⟩ = some (.string ys) ∧ w'.cell? ⟨g2, ad + k * 5 + 3, none⟩ = some (.slice ao ay ba) ∧ w'.cell? ⟨g2, ad + k * 5 + 4, none⟩ = some (.slice aq am aw)) (first | exact ⟨c4, d4, q0, q1, q2, q3, q4, r0, r1, r2, r3, r4⟩ | exact ⟨c5, d5, z0, z1, z2, z3, z4, y0, y1, y2, y3, y4⟩) (first | (go_at_call 111; (with_reducible refine bf.out.mono ?_); rintro e w1 ⟨rfl, M⟩; have bc := (aad hB).trans (M.mono hB.size); have ae := (aad (qz wr.heap.size wr)).trans M; have k1 := b.pure ae; have k2 := b2.pure ae; have c5 := k1.at 4 rfl; have d5 := k2.at 4 rfl; have zz := aoo (bp.out.pure ae) aa; have yy := aoo (bk.out.pure ae) ac; rw [bt.out] at zz; rw [ag.out] at yy; obtain ⟨z0, z1, z2, z3, z4⟩ := zz; obtain ⟨y0, y1, y2, y3, y4⟩ := yy)); go_wp2; go_roundw
       case rel => exact ⟨k + 1, by omega, by go_num, b4, k1, k2, bc⟩
       case measure => simp [intOf]; omega
     ·obtain rfl : k = l.length := by omega
      have b7 := qq (show l.map VT.v = F.map VT.v by have h := af.out; rw [List.take_of_length_le (by simp), List.take_of_length_le (by simp; rw [bd.out]; exact qj _)] at h; exact h); go_wp2; go_ret; exact ⟨⟨true, rfl, ⟨fun _ => ⟨trivial, trivial, trivial, b8.out, b7.out⟩, fun _ => rfl⟩⟩, hB⟩
theorem ara (w : World) (ka va : Option Addr) (kc vc : Nat) (ks A : List ByteArray) (hK : Slc abv 1 w (.slice ka ks.length kc) ks) (Y : Slc abv 1 w (.slice va A.length vc) A) (ae : (ks.length : Int) ≤ 9223372036854775807) :
 Calls prog 158 #[.slice ka ks.length kc, .slice va A.length vc] w fun e w' => e = .returned (.bool (decide (ks = A))) ∧ Below w.heap.size w w' := by
 by_cases e : A.length = ks.length
 rotate_left 1
 ·have h1 : ¬ (ks.length : Int) = (A.length : Int) := by omega
  have z : ((ks.length : Int) != (A.length : Int)) = true := bne_iff_ne.2 h1; have K : decide (ks = A) = false := qg (fun h => e (by rw [h])); rw [K]; clear e K; go_enter func158, ntmps158; go_wp2; go_ret; exact ⟨rfl, qz _ _⟩
 rw [e] at Y ⊢
 have O := qq e
 clear e
 go_enter func158, ntmps158
 go_wp2
 go_loopw [13] (fun W wr => ∃ (k : Nat), k ≤ ks.length ∧ W = .int .i64 k ∧ Hid (ks.take k = A.take k) ∧ Below w.heap.size w wr) (fun W _ => ks.length - (intOf W).toNat)
 case atStart => exact ⟨0, by omega, rfl, qq (by simp), qz _ _⟩
 case round =>
  obtain ⟨k, hk, rfl, Z, G⟩ := hrel; by_cases J : k < ks.length
  ·have h1 : (k : Int) < (ks.length : Int) := by omega
   have N : k < A.length := by rw [O.out]; exact J
   have M := hK.pure G; have D := Y.pure G; rw [← O.out] at D; obtain ⟨kg, ac, rfl⟩ := M.addrB J; obtain ⟨vg, ad, rfl⟩ := D.addrB N; have kq := M.get k J 0 _ rfl; have vq := D.get k N 0 _ rfl; rw [Nat.mul_one, Nat.add_zero] at kq vq; obtain ⟨I, E⟩ := qx (ks[k]); obtain ⟨U, F⟩ := qx (A[k]); rw [E] at kq; rw [F] at vq; by_cases e : I = U
   rotate_left 1
   ·have z : ¬ I.toList = U.toList := acd e
    have h3 : (!I.toList == U.toList) = true := by rw [ju.2 z]; rfl
    have K := qq (show decide (ks = A) = false from qg (fun h => e (by rw [← E, ← F]; simp [h]))); clear e E F M D; go_wp2; go_region; go_wp2; go_ret; exact ⟨by rw [K.out]; rfl, aad G⟩
   ·subst e
    have h3 : (!I.toList == I.toList) = false := by simp
    have ab := qq (show ks.take (k + 1) = A.take (k + 1) by rw [jx J, jx N, Z.out, E, F]); clear E F M D; go_wp2; go_region; go_wp2; go_roundw
    case rel => exact ⟨k + 1, by omega, by go_num, ab, aad G⟩
    case measure => simp [intOf]; omega
  ·obtain rfl : k = ks.length := by omega
   have aa := qq (show decide (ks = A) = true from qp (by have h := Z.out; rw [js, List.take_of_length_le (by rw [O.out]; exact qj _)] at h; exact h)); go_wp2; go_ret; exact ⟨by rw [aa.out]; rfl, G⟩
theorem arb (w : World) (la xa : Option Addr) (lc xc : Nat) (l A : List VT) (P P2 : Nat → Prop) (hL : Slc ac6 5 w (.slice la l.length lc) l) (ax : Slc ac6 5 w (.slice xa A.length xc) A) (bd : (l.length : Int) ≤ 9223372036854775807)
 (ao : Hid (∀ x ∈ l, Rd P w x)) (an : Hid (∀ x ∈ A, Rd P2 w x))
 (a1 : Hid (∀ x ∈ l, ∀ (u : VT) (P P2 : Nat → Prop) (w : World), Rd P w x → Rd P2 w u → Calls prog 124 #[x.arg, u.arg] w fun e w' => (∃ b : Bool, e = .returned (.bool b) ∧ (b = true ↔ x.v = u.v)) ∧ Below w.heap.size w w')) :
 Calls prog 159 #[.slice la l.length lc, .slice xa A.length xc, .func (.func 124) #[] #[]] w fun e w' => (∃ b : Bool, e = .returned (.bool b) ∧ (b = true ↔ l.map VT.v = A.map VT.v)) ∧ Below w.heap.size w w' := by
 by_cases e : A.length = l.length
 rotate_left 1
 ·have h1 : ¬ (l.length : Int) = (A.length : Int) := by omega
  have h2 : ((l.length : Int) != (A.length : Int)) = true := bne_iff_ne.2 h1; have ah := qq (fun h : l.map VT.v = A.map VT.v => e (by have := congrArg List.length h; simpa using this.symm)); clear e; go_enter func159, ntmps159; go_wp2; go_ret; exact ⟨⟨false, rfl, ⟨fun h => jp h (by simp), fun h => jp h ah.out⟩⟩, qz _ _⟩
 rw [e] at ax ⊢
 have ak := qq e
 clear e
 go_enter func159, ntmps159
 go_wp2
 go_loopw [17] (fun s5 wr => ∃ (k : Nat), k ≤ l.length ∧ s5 = .int .i64 k ∧ Hid ((l.map VT.v).take k = (A.map VT.v).take k) ∧ Below w.heap.size w wr) (fun s5 _ => l.length - (intOf s5).toNat)
 case atStart => exact ⟨0, by omega, rfl, qq (by simp), qz _ _⟩
 case round =>
  obtain ⟨k, hk, rfl, aw, hB⟩ := hrel; by_cases aa : k < l.length
  ·have h1 : (k : Int) < (l.length : Int) := by omega
   have ab : k < A.length := by rw [ak.out]; exact aa
   have aj := hL.pure hB; have ad := ax.pure hB; rw [← ak.out] at ad; obtain ⟨g, off, rfl⟩ := aj.addrB aa; obtain ⟨g2, ae, rfl⟩ := ad.addrB ab; have au := (ao.out l[k] (qy aa)).pure hB; have aq := (an.out A[k] (qy ab)).pure hB; have ag := fun (u : World) (hu : Below w.heap.size w u) => a1.out l[k] (qy aa) A[k] P P2 u ((ao.out l[k] (qy aa)).pure hu) ((an.out A[k] (qy ab)).pure hu)
   obtain ⟨N, M, K, D, G, F, I, J, E, bc, xl, hx, q0, q1, q2, q3, q4⟩ := ae4 aj aa au; obtain ⟨yk, yn, ys, Y, W, z, Z, U, O, bb, yl, hy, r0, r1, r2, r3, r4⟩ := ae4 ad ab aq; have av := qq (fun e : l[k].v = A[k].v => show (l.map VT.v).take (k + 1) = (A.map VT.v).take (k + 1) by rw [jx (by simpa using aa), jx (by simpa using ab), aw.out, zq, zq, e])
   have ah := qq (fun h : l.map VT.v = A.map VT.v => show l[k].v = A[k].v by
    have e1 : (l.map VT.v)[k]? = (A.map VT.v)[k]? := by rw [h]
    rw [List.getElem?_map, List.getElem?_map, List.getElem?_eq_getElem aa, List.getElem?_eq_getElem ab] at e1
    exact Option.some.inj e1)
   obtain ⟨Q, hQ⟩ : ∃ Q : Prop, (l[k].v = A[k].v) = Q := ⟨_, rfl⟩
   rw [hQ] at ag av ah; rw [hx, hy, VT.arg_mk, VT.arg_mk] at ag; have rr := aoo (ad.pure ((qz wr.heap.size wr).alloc (qj _) (.cells #[.int .u8 N, .int .u64 M, .string K, .slice D G F, .slice I J E] 56))) ab; rw [hy] at rr; have a0 : (wr.alloc (.cells #[.int .u8 N, .int .u64 M, .string K, .slice D G F, .slice I J E] 56)).cell? ⟨g2, ae + k * 5, none⟩ = some (.int .u8 yk) ∧ (wr.alloc (.cells #[.int .u8 N, .int .u64 M, .string K, .slice D G F, .slice I J E] 56)).cell? ⟨g2, ae + k * 5 + 1, none⟩ = some (.int .u64 yn) ∧ (wr.alloc (.cells #[.int .u8 N, .int .u64 M, .string K, .slice D G F, .slice I J E] 56)).cell? ⟨g2, ae + k * 5 + 2, none⟩ = some (.string ys) ∧ (wr.alloc (.cells #[.int .u8 N, .int .u64 M, .string K, .slice D G F, .slice I J E] 56)).cell? ⟨g2, ae + k * 5 + 3, none⟩ = some (.slice Y W z) ∧ (wr.alloc (.cells #[.int .u8 N, .int .u64 M, .string K, .slice D G F, .slice I J E] 56)).cell? ⟨g2, ae + k * 5 + 4, none⟩ = some (.slice Z U O) := rr; clear rr; obtain ⟨s0, s1, s2, s3, s4⟩ := a0; clear hx hy hQ au aq aj ad; have ar := hB.alloc hB.size (.cells #[.int .u8 N, .int .u64 M, .string K, .slice D G F, .slice I J E] 56); have af := ar.alloc ar.size (.cells #[.int .u8 yk, .int .u64 yn, .string ys, .slice Y W z, .slice Z U O] 56); have hi := ag _ af; clear ag; have bx := (Blk.new wr [.int .u8 N, .int .u64 M, .string K, .slice D G F, .slice I J E] 56).alloc (.cells #[.int .u8 yk, .int .u64 yn, .string ys, .slice Y W z, .slice Z U O] 56); have by_ := Blk.new (wr.alloc (.cells #[.int .u8 N, .int .u64 M, .string K, .slice D G F, .slice I J E] 56)) [.int .u8 yk, .int .u64 yn, .string ys, .slice Y W z, .slice Z U O] 56; rw [show (wr.alloc (.cells #[.int .u8 N, .int .u64 M, .string K, .slice D G F, .slice I J E] 56)).heap.size = wr.heap.size + 1 by simp] at by_; obtain ⟨c0, c1, c2, c3, c4⟩ := bx.a5; obtain ⟨d0, d1, d2, d3, d4⟩ := by_.a5; by_cases hq : Q
   rotate_left 1
   ·have am := qq (show Calls prog 124 #[.agg #[.int .u8 N, .int .u64 M, .string K, .slice D G F, .slice I J E], .agg #[.int .u8 yk, .int .u64 yn, .string ys, .slice Y W z, .slice Z U O]] ((wr.alloc (.cells #[.int .u8 N, .int .u64 M, .string K, .slice D G F, .slice I J E] 56)).alloc (.cells #[.int .u8 yk, .int .u64 yn, .string ys, .slice Y W z, .slice Z U O] 56)) (fun e w' => e = .returned (.bool false) ∧ Below ((wr.alloc (.cells #[.int .u8 N, .int .u64 M, .string K, .slice D G F, .slice I J E] 56)).alloc (.cells #[.int .u8 yk, .int .u64 yn, .string ys, .slice Y W z, .slice Z U O] 56)).heap.size ((wr.alloc (.cells #[.int .u8 N, .int .u64 M, .string K, .slice D G F, .slice I J E] 56)).alloc (.cells #[.int .u8 yk, .int .u64 yn, .string ys, .slice Y W z, .slice Z U O] 56)) w') from hi.mono (by
     rintro e w1 ⟨⟨y, rfl, al⟩, ac⟩; cases y
     ·exact ⟨rfl, ac⟩
     ·exact jp (al.1 rfl) hq))
    have ba := qq hq; clear hi hq; go_wp2_with (first | (go_at_call 124; (with_reducible refine am.out.mono ?_); rintro e w1 ⟨rfl, ac⟩; have ai := af.trans (ac.mono af.size))); go_ret; exact ⟨⟨false, rfl, ⟨fun h => jp h (by simp), fun h => jp (ah.out h) ba.out⟩⟩, ai⟩
   ·have am := qq (show Calls prog 124 #[.agg #[.int .u8 N, .int .u64 M, .string K, .slice D G F, .slice I J E], .agg #[.int .u8 yk, .int .u64 yn, .string ys, .slice Y W z, .slice Z U O]] ((wr.alloc (.cells #[.int .u8 N, .int .u64 M, .string K, .slice D G F, .slice I J E] 56)).alloc (.cells #[.int .u8 yk, .int .u64 yn, .string ys, .slice Y W z, .slice Z U O] 56)) (fun e w' => e = .returned (.bool true) ∧ Below ((wr.alloc (.cells #[.int .u8 N, .int .u64 M, .string K, .slice D G F, .slice I J E] 56)).alloc (.cells #[.int .u8 yk, .int .u64 yn, .string ys, .slice Y W z, .slice Z U O] 56)).heap.size ((wr.alloc (.cells #[.int .u8 N, .int .u64 M, .string K, .slice D G F, .slice I J E] 56)).alloc (.cells #[.int .u8 yk, .int .u64 yn, .string ys, .slice Y W z, .slice Z U O] 56)) w') from hi.mono (by
     rintro e w1 ⟨⟨y, rfl, al⟩, ac⟩; cases y
     ·exact jp (al.2 hq) (by simp)
     ·exact ⟨rfl, ac⟩))
    have ay := qq (av.out hq); clear hi hq; go_wp2_with (first | (go_at_call 124; (with_reducible refine am.out.mono ?_); rintro e w1 ⟨rfl, ac⟩; have ai := af.trans (ac.mono af.size))); go_roundw
    case rel => exact ⟨k + 1, by omega, by go_num, ay, ai⟩
    case measure => simp [intOf]; omega
  ·obtain rfl : k = l.length := by omega
   have az := qq (show l.map VT.v = A.map VT.v by have h := aw.out; rw [List.take_of_length_le (by simp), List.take_of_length_le (by simp; rw [ak.out]; exact qj _)] at h; exact h); go_wp2; go_ret; exact ⟨⟨true, rfl, ⟨fun _ => az.out, fun _ => rfl⟩⟩, hB⟩
theorem ajc (t : VT) : ∀ (u : VT) (P P2 : Nat → Prop) (w : World), Rd P w t → Rd P2 w u → Calls prog 124 #[t.arg, u.arg] w fun e w' => (∃ b : Bool, e = .returned (.bool b) ∧ (b = true ↔ t.v = u.v)) ∧ Below w.heap.size w w' := by
 induction t using VT.ind with
 | h t ih =>
  intro u P P2 w hR ae; have aj : ∀ x ∈ t.l, Rd P w x := hR.sub
  have ai : ∀ x ∈ u.l, Rd P2 w x := ae.sub
  obtain ⟨A, D, E, I, F, J, G, ks, l, rfl, hK, hL, am, ao⟩ := hR.open; obtain ⟨uk, un, us, Y, W, N, O, K, M, rfl, al, an, av, au⟩ := ae.open; simp only [VT.arg_mk, bbf]; have aq : ∀ x ∈ l, ∀ (u : VT) (P P2 : Nat → Prop) (w : World), Rd P w x → Rd P2 w u → Calls prog 124 #[x.arg, u.arg] w fun e w' => (∃ b : Bool, e = .returned (.bool b) ∧ (b = true ↔ x.v = u.v)) ∧ Below w.heap.size w w' := ih
  have ag : ∀ x ∈ l, Rd P w x := aj
  have af : ∀ x ∈ M, Rd P2 w x := ai
  have ah := qq (fun (u : World) (hu : Below w.heap.size w u) => ara u I Y F W ks K (hK.pure hu) (al.pure hu) am); have ar := qq (fun (u : World) (hu : Below w.heap.size w u) => arb u J N G O l M P P2 (hL.pure hu) (an.pure hu) ao (qq fun x hx => (ag x hx).pure hu) (qq fun x hx => (af x hx).pure hu) (qq aq)); clear ih aq hR ae aj ai ag af am ao av au hK al hL an; by_cases e : A = uk
  rotate_left 1
  ·have h1 : (A == uk) = false := ju.2 e
   have aa := qq (e); clear e; have Z := ((qz w.heap.size w).alloc (qj _) (.cells #[.int .u8 A, .int .u64 D, .string E, .slice I ks.length F, .slice J l.length G] 56)); have z := Z.alloc Z.size (.cells #[.int .u8 uk, .int .u64 un, .string us, .slice Y K.length W, .slice N M.length O] 56); have b0 := (Blk.new w [.int .u8 A, .int .u64 D, .string E, .slice I ks.length F, .slice J l.length G] 56).alloc (.cells #[.int .u8 uk, .int .u64 un, .string us, .slice Y K.length W, .slice N M.length O] 56); have U := Blk.new (w.alloc (.cells #[.int .u8 A, .int .u64 D, .string E, .slice I ks.length F, .slice J l.length G] 56)) [.int .u8 uk, .int .u64 un, .string us, .slice Y K.length W, .slice N M.length O] 56; rw [show (w.alloc (.cells #[.int .u8 A, .int .u64 D, .string E, .slice I ks.length F, .slice J l.length G] 56)).heap.size = w.heap.size + 1 by simp] at U; obtain ⟨c0, c1, c2, c3, c4⟩ := b0.a5; obtain ⟨d0, d1, d2, d3, d4⟩ := U.a5; go_enter func124, ntmps124; go_wp2; go_ret; exact ⟨⟨false, rfl, ⟨fun h => jp h (by simp), fun h => jp h.1 aa.out⟩⟩, z⟩
  subst e; by_cases e : D = un
  rotate_left 1
  ·have h1 : (D == un) = false := ju.2 e
   have aa := qq (e); clear e; have Z := ((qz w.heap.size w).alloc (qj _) (.cells #[.int .u8 A, .int .u64 D, .string E, .slice I ks.length F, .slice J l.length G] 56)); have z := Z.alloc Z.size (.cells #[.int .u8 A, .int .u64 un, .string us, .slice Y K.length W, .slice N M.length O] 56); have b0 := (Blk.new w [.int .u8 A, .int .u64 D, .string E, .slice I ks.length F, .slice J l.length G] 56).alloc (.cells #[.int .u8 A, .int .u64 un, .string us, .slice Y K.length W, .slice N M.length O] 56); have U := Blk.new (w.alloc (.cells #[.int .u8 A, .int .u64 D, .string E, .slice I ks.length F, .slice J l.length G] 56)) [.int .u8 A, .int .u64 un, .string us, .slice Y K.length W, .slice N M.length O] 56; rw [show (w.alloc (.cells #[.int .u8 A, .int .u64 D, .string E, .slice I ks.length F, .slice J l.length G] 56)).heap.size = w.heap.size + 1 by simp] at U; obtain ⟨c0, c1, c2, c3, c4⟩ := b0.a5; obtain ⟨d0, d1, d2, d3, d4⟩ := U.a5; go_enter func124, ntmps124; go_wp2; go_ret; exact ⟨⟨false, rfl, ⟨fun h => jp h (by simp), fun h => jp h.2.1 aa.out⟩⟩, z⟩
  subst e; by_cases e : E = us
  rotate_left 1
  ·have h1 : ¬ E.toList = us.toList := acd e
   have h2 : (E.toList == us.toList) = false := ju.2 h1; have aa := qq (e); clear e; have Z := ((qz w.heap.size w).alloc (qj _) (.cells #[.int .u8 A, .int .u64 D, .string E, .slice I ks.length F, .slice J l.length G] 56)); have z := Z.alloc Z.size (.cells #[.int .u8 A, .int .u64 D, .string us, .slice Y K.length W, .slice N M.length O] 56); have b0 := (Blk.new w [.int .u8 A, .int .u64 D, .string E, .slice I ks.length F, .slice J l.length G] 56).alloc (.cells #[.int .u8 A, .int .u64 D, .string us, .slice Y K.length W, .slice N M.length O] 56); have U := Blk.new (w.alloc (.cells #[.int .u8 A, .int .u64 D, .string E, .slice I ks.length F, .slice J l.length G] 56)) [.int .u8 A, .int .u64 D, .string us, .slice Y K.length W, .slice N M.length O] 56; rw [show (w.alloc (.cells #[.int .u8 A, .int .u64 D, .string E, .slice I ks.length F, .slice J l.length G] 56)).heap.size = w.heap.size + 1 by simp] at U; obtain ⟨c0, c1, c2, c3, c4⟩ := b0.a5; obtain ⟨d0, d1, d2, d3, d4⟩ := U.a5; go_enter func124, ntmps124; go_wp2; go_ret; exact ⟨⟨false, rfl, ⟨fun h => jp h (by simp), fun h => jp h.2.2.1 aa.out⟩⟩, z⟩
  subst e; by_cases e : ks = K
  rotate_left 1
  ·have ad : decide (ks = K) = false := qg e
   have aa := qq e; clear e; have Z := ((qz w.heap.size w).alloc (qj _) (.cells #[.int .u8 A, .int .u64 D, .string E, .slice I ks.length F, .slice J l.length G] 56)); have z := Z.alloc Z.size (.cells #[.int .u8 A, .int .u64 D, .string E, .slice Y K.length W, .slice N M.length O] 56); have b0 := (Blk.new w [.int .u8 A, .int .u64 D, .string E, .slice I ks.length F, .slice J l.length G] 56).alloc (.cells #[.int .u8 A, .int .u64 D, .string E, .slice Y K.length W, .slice N M.length O] 56); have U := Blk.new (w.alloc (.cells #[.int .u8 A, .int .u64 D, .string E, .slice I ks.length F, .slice J l.length G] 56)) [.int .u8 A, .int .u64 D, .string E, .slice Y K.length W, .slice N M.length O] 56; rw [show (w.alloc (.cells #[.int .u8 A, .int .u64 D, .string E, .slice I ks.length F, .slice J l.length G] 56)).heap.size = w.heap.size + 1 by simp] at U; obtain ⟨c0, c1, c2, c3, c4⟩ := b0.a5; obtain ⟨d0, d1, d2, d3, d4⟩ := U.a5; go_enter func124, ntmps124; go_wp2_with (first | (go_at_call 158; (with_reducible refine (ah.out _ z).mono ?_); rintro e w1 ⟨rfl, ab⟩; have ac := z.trans (ab.mono z.size); have k1 := b0.below ab (by simp <;> omega); have k2 := U.below ab (by simp <;> omega); have c4 := k1.at 4 rfl; have d4 := k2.at 4 rfl; rw [ad])); go_ret; exact ⟨⟨false, rfl, ⟨fun h => jp h (by simp), fun h => jp h.2.2.2.1 aa.out⟩⟩, ac⟩
  have ad : decide (ks = K) = true := qp e; have ay := qq e; clear e; have Z := ((qz w.heap.size w).alloc (qj _) (.cells #[.int .u8 A, .int .u64 D, .string E, .slice I ks.length F, .slice J l.length G] 56)); have z := Z.alloc Z.size (.cells #[.int .u8 A, .int .u64 D, .string E, .slice Y K.length W, .slice N M.length O] 56); have b0 := (Blk.new w [.int .u8 A, .int .u64 D, .string E, .slice I ks.length F, .slice J l.length G] 56).alloc (.cells #[.int .u8 A, .int .u64 D, .string E, .slice Y K.length W, .slice N M.length O] 56); have U := Blk.new (w.alloc (.cells #[.int .u8 A, .int .u64 D, .string E, .slice I ks.length F, .slice J l.length G] 56)) [.int .u8 A, .int .u64 D, .string E, .slice Y K.length W, .slice N M.length O] 56; rw [show (w.alloc (.cells #[.int .u8 A, .int .u64 D, .string E, .slice I ks.length F, .slice J l.length G] 56)).heap.size = w.heap.size + 1 by simp] at U; obtain ⟨c0, c1, c2, c3, c4⟩ := b0.a5; obtain ⟨d0, d1, d2, d3, d4⟩ := U.a5; go_enter func124, ntmps124; go_wp2_with (first | (go_at_call 158; (with_reducible refine (ah.out _ z).mono ?_); rintro e w1 ⟨rfl, ab⟩; have ac := z.trans (ab.mono z.size); have k1 := b0.below ab (by simp <;> omega); have k2 := U.below ab (by simp <;> omega); have c4 := k1.at 4 rfl; have d4 := k2.at 4 rfl; rw [ad]) | (go_at_call 159; (with_reducible refine (ar.out _ ac).mono ?_); rintro e w2 ⟨⟨b, rfl, ak⟩, ax⟩; have aw := ac.trans (ax.mono ac.size))); go_ret; exact ⟨⟨b, rfl, ⟨fun h => ⟨trivial, trivial, trivial, ay.out, ak.1 h⟩, fun h => ak.2 h.2.2.2.2⟩⟩, aw⟩
theorem bgb {t u : VT} {P P2 : Nat → Prop} {w : World} (h : Rd P w t) (k : Rd P2 w u) (e : t.v = u.v) : Calls prog 111 #[t.arg, u.arg] w fun r w' => r = .returned (.bool true) ∧ Below w.heap.size w w' :=
 (bfq t u P P2 w h k).mono fun r w' ⟨⟨b, D, E⟩, A⟩ => ⟨by rw [D, E.2 e], A⟩
theorem atd {t u : VT} {P P2 : Nat → Prop} {w : World} (h : Rd P w t) (k : Rd P2 w u) (e : t.v = u.v) : Calls prog 124 #[t.arg, u.arg] w fun r w' => r = .returned (.bool true) ∧ Below w.heap.size w w' :=
 (ajc t u P P2 w h k).mono fun r w' ⟨⟨b, D, E⟩, A⟩ => ⟨by rw [D, E.2 e], A⟩
theorem awc {t u : VT} {P P2 : Nat → Prop} {w : World} (h : Rd P w t) (k : Rd P2 w u) (e : t.v ≠ u.v) : Calls prog 124 #[t.arg, u.arg] w fun r w' => r = .returned (.bool false) ∧ Below w.heap.size w w' :=
 (ajc t u P P2 w h k).mono fun r w' ⟨⟨b, D, E⟩, A⟩ => ⟨by rw [D]; cases b with | false => rfl | true => exact jp (E.1 rfl) e, A⟩
theorem bf1 {t u : VT} {P P2 : Nat → Prop} {w : World} (h : Rd P w t) (k : Rd P2 w u) (e : t.v ≠ u.v) : Calls prog 111 #[t.arg, u.arg] w fun r w' => r = .returned (.bool false) ∧ Below w.heap.size w w' :=
 (bfq t u P P2 w h k).mono fun r w' ⟨⟨b, D, E⟩, A⟩ => ⟨by rw [D]; cases b with | false => rfl | true => exact jp (E.1 rfl) e, A⟩
theorem VT.zero_rd {P : Nat → Prop} {w : World} : Rd P w VT.zero := Rd.leaf (by omega) (by omega) (by omega) (by omega)
theorem VT.zero_v : VT.zero.v = .mk 0 0 ⟨#[]⟩ [] [] := by simp [VT.zero, VT.v, VT.vL]
theorem aov {w : World} {o : Option (V × Nat)} {e : Ending} {w' : World} (h : atc w o e w') : ∃ (E K : Int) (G : ByteArray) (I : Option Addr) (M : Nat) (J : Option Addr) (F : Nat) (A : List ByteArray) (D : List VT),
 e = .returned (.tuple #[.agg #[.int .u8 E, .int .u64 K, .string G, .slice I A.length M, .slice J D.length F], .int .i64 (bdv o), .int .i64 (bdw o)]) ∧ (VT.mk E K G (.slice I A.length M) (.slice J D.length F) A D).v = ax6 o ∧
 Rd (fun i => w.heap.size ≤ i) w' (VT.mk E K G (.slice I A.length M) (.slice J D.length F) A D) ∧ Below w.heap.size w w' := by
 match o, h with
 | none, ⟨he, hB⟩ => exact ⟨0, 0, ⟨#[]⟩, none, 0, none, 0, [], [], he, VT.zero_v, VT.zero_rd, hB⟩
 | some (x, n), ⟨t, he, hv, hR, hB⟩ =>
  obtain ⟨E, K, G, I, M, J, F, A, D, rfl, -⟩ := hR.open; exact ⟨E, K, G, I, M, J, F, A, D, he, hv, hR, hB⟩
structure PT where
 key : ByteArray
 dur : Bool
 red : Bool
 mid : ByteArray
 app : VT
def PT.p (t : PT) : Pr := ⟨t.key, t.dur, t.red, t.mid, t.app.v⟩
def PT.arg (t : PT) : Value := .agg #[.string t.key, .bool t.dur, .bool t.red, .string t.mid, .int .u8 t.app.k, .int .u64 t.app.n, .string t.app.s, t.app.kv, t.app.lv]
theorem PT.arg_mk (key mid : ByteArray) (A red : Bool) (k n : Int) (s : ByteArray) (kv lv : Value) (ks : List ByteArray) (l : List VT) : (PT.mk key A red mid (VT.mk k n s kv lv ks l)).arg = .agg #[.string key, .bool A, .bool red, .string mid, .int .u8 k, .int .u64 n, .string s, kv, lv] := rfl
theorem ajd : (prog.info? 58).map (fun i => (i.zero, i.size)) = some (some (.agg #[.string ⟨#[]⟩, .bool false, .bool false, .string ⟨#[]⟩, .int .u8 0, .int .u64 0, .string ⟨#[]⟩, .slice none 0 0, .slice none 0 0]), 9) := by kernel_rfl
theorem VT.zero_vz : VT.zero.v = V.zero := VT.zero_v
theorem bgc (l m : List UInt8) : (⟨l.toArray⟩ : ByteArray) ++ ⟨m.toArray⟩ = ⟨(l ++ m).toArray⟩ := by
 apply toList_inj
 simp [ByteArray.toList_eq]
theorem ate {k n : Int} {s : ByteArray} {kv lv : Value} {ks : List ByteArray} {l : List VT} : (VT.mk k n s kv lv ks l).v.kind = k := by rw [VT.v_eq]; rfl
theorem be3 {P : Prop} (h : P := by
 have hf := qq (show (PT.mk key dur red mid (VT.mk tk tn ts (.slice tka tks.length tkc) (.slice tla tl.length tlc) tks tl)).p.chk = 90 by rw [hchk.out]; exact qk (fun e => by omega))
 clear h1
 go_wp2
 go_ret
 exact ⟨by rw [hf.out]; rfl, hB1⟩) : P := h
theorem bfv (t : PT) (P : Nat → Prop) (w : World) (J : Rd P w t.app) : Calls prog 184 #[t.arg] w fun e w' => e = .returned (.int .i64 t.p.chk) ∧ Below w.heap.size w w' := by
 obtain ⟨key, dur, red, mid, tv⟩ := t
 have J : Rd _ _ tv := J
 obtain ⟨tk, tn, ts, tka, tkc, tla, tlc, tks, tl, rfl, -⟩ := J.open
 rw [PT.arg_mk]
 have hB1 := (qz w.heap.size w).alloc (qj _) (.cells #[.string key, .bool dur, .bool red, .string mid, .int .u8 tk, .int .u64 tn, .string ts, .slice tka tks.length tkc, .slice tla tl.length tlc] 58)
 have U := Blk.new w [.string key, .bool dur, .bool red, .string mid, .int .u8 tk, .int .u64 tn, .string ts, .slice tka tks.length tkc, .slice tla tl.length tlc] 58
 have D := J.pure hB1
 obtain ⟨W, N⟩ := qx ((VT.mk tk tn ts (.slice tka tks.length tkc) (.slice tla tl.length tlc) tks tl).v.chk)
 have Z := qq N
 have hchk := qq (show (PT.mk key dur red mid (VT.mk tk tn ts (.slice tka tks.length tkc) (.slice tla tl.length tlc) tks tl)).p.chk = if key.size ≤ 255 ∧ mid.size ≤ 255 ∧ ((VT.mk tk tn ts (.slice tka tks.length tkc) (.slice tla tl.length tlc) tks tl).v = V.zero ∨ tk = 168 ∧ W = 0) then 0 else 90 by rw [← N, ← (ate : (VT.mk tk tn ts (.slice tka tks.length tkc) (.slice tla tl.length tlc) tks tl).v.kind = tk)]; rfl)
 clear N
 obtain ⟨a0, a1, a2, a3, a4, a5, a6, a7, a8⟩ := U.a9
 go_enter func184, ntmps184
 by_cases h1 : 255 < key.size
 ·have ae : decide ((255 : Int) < (key.size : Int)) = true := qp (by omega)
  exact be3
 have ae : decide ((255 : Int) < (key.size : Int)) = false := qg (by omega)
 have aa := qq (show key.size ≤ 255 by omega)
 clear h1
 by_cases h1 : 255 < mid.size
 ·have ad : decide ((255 : Int) < (mid.size : Int)) = true := qp (by omega)
  exact be3
 have ad : decide ((255 : Int) < (mid.size : Int)) = false := qg (by omega)
 have ab := qq (show mid.size ≤ 255 by omega)
 clear h1
 by_cases K : tk = 168
 ·subst K
  have ac : (VT.mk 168 tn ts (.slice tka tks.length tkc) (.slice tla tl.length tlc) tks tl).v ≠ VT.zero.v := fun e => by
   have := congrArg V.kind e; rw [ate, VT.zero_v] at this; exact jp this (by decide)
  have z := qq ac; clear ac; by_cases M : W = 0
  ·subst M
   have hf := qq (show (PT.mk key dur red mid (VT.mk 168 tn ts (.slice tka tks.length tkc) (.slice tla tl.length tlc) tks tl)).p.chk = 0 by rw [hchk.out]; exact qw ⟨aa.out, ab.out, .inr ⟨rfl, rfl⟩⟩); go_wp2_with (go_at_call 206; refine (bfi (VT.mk 168 tn ts (.slice tka tks.length tkc) (.slice tla tl.length tlc) tks tl) _ _ D).mono ?_; rintro e w2 ⟨rfl, A⟩; rw [Z.out]; have Y := U.pure A; have R2 := D.pure A; have I := hB1.trans (A.mono hB1.size); obtain ⟨b0, b1, b2, b3, b4, b5, b6, b7, b8⟩ := Y.a9); go_ret; exact ⟨by rw [hf.out]; rfl, I⟩
  ·have h3 : (W == 0) = false := ju.2 M
   have hf := qq (show (PT.mk key dur red mid (VT.mk 168 tn ts (.slice tka tks.length tkc) (.slice tla tl.length tlc) tks tl)).p.chk = 90 by rw [hchk.out]; exact qk (fun e => by rcases e.2.2 with e | e; exact z.out (e.trans VT.zero_vz.symm); exact M e.2)); clear M; go_wp2_with (first | (go_at_call 206; refine (bfi (VT.mk 168 tn ts (.slice tka tks.length tkc) (.slice tla tl.length tlc) tks tl) _ _ D).mono ?_; rintro e w2 ⟨rfl, A⟩; rw [Z.out]; have Y := U.pure A; have R2 := D.pure A; have I := hB1.trans (A.mono hB1.size); obtain ⟨b0, b1, b2, b3, b4, b5, b6, b7, b8⟩ := Y.a9) | (go_at_call 111; refine (bf1 (u := VT.zero) (P2 := fun _ => True) R2 VT.zero_rd z.out).mono ?_; rintro e w3 ⟨rfl, F⟩; have G := I.trans (F.mono I.size))); go_ret; exact ⟨by rw [hf.out]; rfl, G⟩
 ·have h3 : decide (tk = 168) = false := qg K
  have h4 : (tk == 168) = false := ju.2 K; by_cases E : (VT.mk tk tn ts (.slice tka tks.length tkc) (.slice tla tl.length tlc) tks tl).v = V.zero
  ·have O := qq (E.trans VT.zero_vz.symm)
   have hf := qq (show (PT.mk key dur red mid (VT.mk tk tn ts (.slice tka tks.length tkc) (.slice tla tl.length tlc) tks tl)).p.chk = 0 by rw [hchk.out]; exact qw ⟨aa.out, ab.out, .inl E⟩); clear E; go_wp2_with (go_at_call 111; refine (bgb (u := VT.zero) (P2 := fun _ => True) D VT.zero_rd O.out).mono ?_; rintro e w3 ⟨rfl, F⟩; have G := hB1.trans (F.mono hB1.size)); go_ret; exact ⟨by rw [hf.out]; rfl, G⟩
  ·have O := qq (show ¬ (VT.mk tk tn ts (.slice tka tks.length tkc) (.slice tla tl.length tlc) tks tl).v = VT.zero.v from fun e => E (e.trans VT.zero_vz))
   have hf := qq (show (PT.mk key dur red mid (VT.mk tk tn ts (.slice tka tks.length tkc) (.slice tla tl.length tlc) tks tl)).p.chk = 90 by rw [hchk.out]; exact qk (fun e => by rcases e.2.2 with e | e; exact E e; exact K e.1)); clear E; go_wp2_with (go_at_call 111; refine (bf1 (u := VT.zero) (P2 := fun _ => True) D VT.zero_rd O.out).mono ?_; rintro e w3 ⟨rfl, F⟩; have G := hB1.trans (F.mono hB1.size)); go_ret; exact ⟨by rw [hf.out]; rfl, G⟩
theorem bei (B : Nat) (w : World) (bv : Value) (L : List UInt8) (s : ByteArray) (F : Own B 5 1 aax w bv L) (O : B ≤ w.heap.size) (hs : s.size ≤ 255) (hL : Big (L.length + 300)) :
 Calls prog 186 #[bv, .string s] w fun e w' => ∃ r, e = .returned r ∧ Own B 5 1 aax w' r (L ++ stx s) ∧ Below B w w' := by
 obtain ⟨ba, bc, rfl⟩ := aap F
 have D := qq hL.le
 go_enter func186, ntmps186
 by_cases A : s.size = 0
 ·have E := qq (show L ++ stx s = L by unfold stx; rw [qw A, List.append_nil])
  obtain rfl := af5 A; clear A; go_wp2; go_ret; exact ⟨_, rfl, by rw [E.out]; exact F, qz _ _⟩
 ·have h1 : ¬ s.toList = [] := fun e => A (by rw [← acr, e]; rfl)
  have h2 := aeg (show 0 < s.size by omega); have E := qq (show L ++ stx s = (L ++ [UInt8.ofNat s.size]) ++ s.data.toList by unfold stx; rw [qk A]; simp); have h := qq hs
  have ae : IntKind.u8.wrap (s.size : Int) = (s.size : Int) := by
   have e : IntKind.u8.wrap (s.size : Int) = (s.size : Int) % 256 := rfl; rw [e]; omega
  have ad : (s.size : Int) ≤ 255 := by omega
  have I : (s.size : Int) = ((UInt8.ofNat s.size).toNat : Int) := by rw [UInt8.toNat_ofNat']; omega
  have Z := (qz B w).alloc O (.cells #[.int .u8 (s.size : Int)] 5); have J := F.alloc (.cells #[.int .u8 (s.size : Int)] 5); have z := (Own.byte1 w (UInt8.ofNat s.size) (s.size : Int) I (qj _)).slc aaa; have G : B ≤ (w.alloc (.cells #[.int .u8 (s.size : Int)] 5)).heap.size := by simp; omega
  clear A I hs; go_wp2_with (first | (at_builtin; refine aaj (base := B) rfl (.tmp 8) (.tmp 12) 189 5 rfl abx aaa aay _ L rfl J _ [UInt8.ofNat s.size] rfl z (by have := D.out; simp only [jn, List.length_nil]; unfold maxLen; omega) (by have := D.out; simp only [jn, List.length_nil]; omega) G ?_; intro v5 w5 K U ac ab; have N := Z.grown U G (fun j e => J.ge e); have M := jk O N.size) | (at_builtin; refine aon (base := B) rfl (.tmp 14) (.tmp 15) rfl v5 _ rfl K s rfl (by have := D.out; have := h.out; simp only [jz, jn, List.length_nil]; omega) M ?_; intro v6 w6 Y W; have aa := N.grown W M (fun j e => K.ge e))); go_ret; exact ⟨_, rfl, by rw [E.out]; exact Y, aa⟩
theorem bc6 (w : World) (is : Bool) (n : Int) : Calls prog 187 #[.bool is, .int .u8 n] w fun e w' => e = .returned (.int .u8 (if is then n else 0)) ∧ w = w' := by
 go_enter func187, ntmps187
 cases is
 ·go_wp2
  go_ret; exact ⟨rfl, rfl⟩
 ·go_wp2
  go_ret; exact ⟨rfl, rfl⟩
theorem bez (w : World) (bv : Value) (L : List UInt8) (F : Slc aax 1 w bv L) (G : L.length ≤ 2000000) :
 Calls prog 185 #[bv] w fun e w' => e = .returned (.string ⟨(part L).toArray⟩) ∧ Below w.heap.size w w' := by
 obtain ⟨z, bc, rfl, -⟩ := F.len
 have E := qq G
 have Z : IntKind.u64.wrap (L.length : Int) = (L.length : Int) := bau _ (by omega) (by omega)
 have K := qq (show (0 : Int) ≤ (L.length : Int) by omega)
 have N := qq (show (L.length : Int) < 18446744073709551616 by omega)
 clear G
 go_enter func185, ntmps185
 go_wp2_with (first | (go_at_call 207; refine (ba6 _ (L.length : Int) 4 K.out N (by unfold Wd; omega)).mono ?_; rintro e w3 ⟨r3, rfl, D, A⟩; rw [Int.toNat_natCast] at D; have J := F.pure A) | (at_builtin; refine aaj (base := w.heap.size) rfl (.tmp 6) (.tmp 7) 189 5 rfl abx aaa aay _ _ rfl D _ L rfl J (by have := E.out; simp only [aao]; unfold maxLen; omega) (by have := E.out; simp only [aao]; omega) A.size ?_; intro v4 U M I W Y; have O := A.grown I A.size (fun j e => D.ge e); have h := aif U _ _ (M.slc aaa)))
 go_ret
 exact ⟨rfl, O⟩
inductive V.Fit : V → Prop
 | mk {k n : Int} {s : ByteArray} {ks : List ByteArray} {l : List V} : ks.length ≤ 1000000 → l.length ≤ 1000000 → (∀ t ∈ l, V.Fit t) → V.Fit (.mk k n s ks l)
theorem ap7 : ∀ (l : List V) (m : Int), 0 ≤ V.cntL l m → ∀ t ∈ l, ∃ D, D ≤ m ∧ 0 ≤ t.cnt D
 | [], m, _, t, A => jp A (by simp)
 | x :: xs, m, h, t, A => by
  unfold V.cntL at h; by_cases E : m < 0
  ·rw [qw E] at h; omega
  ·rw [qk E] at h
   have G := af4 xs (x.cnt m); rcases List.mem_cons.1 A with rfl | A
   ·exact ⟨m, Int.le_refl _, by omega⟩
   ·obtain ⟨D, J, F⟩ := ap7 xs (x.cnt m) h t A
    have I := ak2 x m; exact ⟨D, by omega, F⟩
theorem bbg (v : V) : ∀ n : Int, v.Kfit → 0 ≤ v.cnt n → n ≤ 1000000 → v.Fit := by
 induction v using V.ind with
 | h k n s ks l ih =>
  intro m D A I; unfold V.cnt at A; have K := apy l (m - 1) A; have M := af4 l (m - 1)
  cases D with
  | mk D hs => exact .mk D (by omega) (fun t E => by
   obtain ⟨G, J, F⟩ := ap7 l (m - 1) A t E
   exact ih t E G (hs t E) F (by omega))
theorem atf {v : V} (h : 0 ≤ v.cnt 400 ∧ V.Kfit v) : v.Fit := bbg v 400 h.2 h.1 (by omega)
structure CpSt (w0 : World) (X : Nat) (k n : Int) (s : ByteArray) (w : World) (kv lv : Value) (ks : List ByteArray) (L : List VT) : Prop where
 x : Blk w X [.int .u8 k, .int .u64 n, .string s, kv, lv]
 ko : Own w0.heap.size 9 1 abv w kv ks
 lo : Own w0.heap.size 56 5 ac6 w lv L
 rd : ∀ x ∈ L, Rd (MP w0.heap.size kv lv) w x
 up : Upd (acu X) w0 w
 xl : X < w0.heap.size
section
variable {w0 w w' : World} {X : Nat} {k n : Int} {s : ByteArray} {kv lv : Value} {ks : List ByteArray} {L : List VT}
theorem CpSt.pure (h : CpSt w0 X k n s w kv lv ks L) (A : Below w.heap.size w w') : CpSt w0 X k n s w' kv lv ks L :=
 ⟨h.x.pure A, h.ko.pure A, h.lo.pure A, fun x D => (h.rd x D).pure A, h.up.trans (Upd.of_below (S := fun _ => False) A) (fun _ e _ => e.elim), h.xl⟩
theorem CpSt.tree {t : VT} (h : CpSt w0 X k n s w kv lv ks L) (A : Rd (fun i => w.heap.size ≤ i) w' t) : Rd (MP w0.heap.size kv lv) w' t :=
 A.weaken (fun i _ hi => ⟨jk h.up.size hi, fun e => by have := h.ko.lt e; omega, fun e => by have := h.lo.lt e; omega⟩)
theorem CpSt.app {g A : Nat} {t : VT} (h : CpSt w0 X k n s w kv lv ks L) (D : Own w0.heap.size 56 5 ac6 w' (.slice (some ⟨g, 0, none⟩) (L.length + 1) A) (L ++ [t])) (F : w.grownBy w' lv.ownBlock) (hf : lv.ownBlock = some g ∨ g = w.heap.size)
 (ht : Rd (MP w0.heap.size kv lv) w t) :
 Blk w' X [.int .u8 k, .int .u64 n, .string s, kv, lv] ∧ CpSt w0 X k n s (w'.setCell ⟨X, 4, none⟩ (.slice (some ⟨g, 0, none⟩) (L.length + 1) A)) kv (.slice (some ⟨g, 0, none⟩) (L.length + 1) A) ks (L ++ [t]) := by
 have I := h.xl
 have G : w0.heap.size ≤ g := D.ge rfl
 have E : Upd (fun i => lv.ownBlock = some i) w w' := Upd.grown F (fun i e => e)
 have hs := Upd.set (S := fun i => i = X) (w := w') (p := ⟨X, 4, none⟩) rfl (.slice (some ⟨g, 0, none⟩) (L.length + 1) A)
 have hx : Blk w' X [.int .u8 k, .int .u64 n, .string s, kv, lv] := h.x.upd E (fun e => by have := h.lo.ge e; omega)
 have hu : Upd (fun i => lv.ownBlock = some i ∨ i = g ∨ i = X) w (w'.setCell ⟨X, 4, none⟩ (.slice (some ⟨g, 0, none⟩) (L.length + 1) A)) := (E.mono (fun i e _ => .inl e)).trans hs (fun i e _ => .inr (.inr e))
 have hrd : ∀ x, Rd (MP w0.heap.size kv lv) w x → Rd (MP w0.heap.size kv (.slice (some ⟨g, 0, none⟩) (L.length + 1) A)) (w'.setCell ⟨X, 4, none⟩ (.slice (some ⟨g, 0, none⟩) (L.length + 1) A)) x := fun x hx => by
  exact ahg
 refine ⟨hx, hx.set 4 _, h.ko.upd hu (fun i hi e => ?_), D.upd hs (fun i hi e => by have := D.ge hi; omega), fun x hx => ?_, h.up.trans hu (fun i e hi => by rcases e with e | e | e; (have := h.lo.ge e; omega); omega; exact e), h.xl⟩
 ·exact af8
 ·exact af9
theorem CpSt.whole {S : Nat → Prop} (h : CpSt w0 X k n s w kv lv ks L) (D : Upd S w w') (A : ∀ i, S i → i < w0.heap.size) (G : 0 ≤ n) (I : n < 18446744073709551616) (K : 0 ≤ k) (J : k < 256) : Rd (fun i => w0.heap.size ≤ i) w' (.mk k n s kv lv ks L) :=
 .mk ((h.ko.upd D (fun i hi e => by have E := h.ko.ge hi; have F := A i e; omega)).slc ac7) (fun _ i hi => h.ko.ge hi) ((h.lo.upd D (fun i hi e => by have E := h.lo.ge hi; have F := A i e; omega)).slc aak) (fun _ i hi => h.lo.ge hi)
  (fun x M => ((h.rd x M).upd D (fun i hi e => by have E := hi.1; have F := A i e; omega)).weaken (fun i _ hi => hi.1)) G I K J
end
theorem awd (b : List UInt8) : (part b).length = 4 + b.length := by unfold part; rw [jz, aao]
def arc (B : Nat) (w : World) (Q : Prop) (e : Ending) (w' : World) : Prop := (∃ b : Bool, e = .returned (.bool b) ∧ (b = true → Q)) ∧ Below B w w'
theorem abi {B : Nat} {w w' : World} {Q : Prop} (A : Below B w w') : arc B w Q (.returned (.bool false)) w' := ⟨⟨false, rfl, fun e => jp e (by simp)⟩, A⟩
theorem ama {B : Nat} {w w' : World} {Q : Prop} {b : Bool} (h : b = true → Q) (A : Below B w w') : arc B w Q (.returned (.bool b)) w' := ⟨⟨b, rfl, h⟩, A⟩
theorem aje (t : PT) (P : Nat → Prop) (w : World) (E : Rd P w t.app) : Calls prog 22 #[t.arg] w (arc w.heap.size w (t.key.size ≤ 1000 ∧ t.mid.size ≤ 1000 ∧ V.Fit t.app.v)) := by
 obtain ⟨key, M, red, mid, tv⟩ := t
 have E : Rd _ _ tv := E
 obtain ⟨W, Y, Z, O, K, J, G, I, U, rfl, -⟩ := E.open
 rw [PT.arg_mk]
 have D := (qz w.heap.size w).alloc (qj _) (.cells #[.string key, .bool M, .bool red, .string mid, .int .u8 W, .int .u64 Y, .string Z, .slice O I.length K, .slice J U.length G] 58)
 have A1 := Blk.new w [.string key, .bool M, .bool red, .string mid, .int .u8 W, .int .u64 Y, .string Z, .slice O I.length K, .slice J U.length G] 58
 have R1 := E.pure D
 obtain ⟨a0, a1, a2, a3, a4, a5, a6, a7, a8⟩ := A1.a9
 have F := aq9 _ _ _ R1
 rw [VT.arg_mk] at F
 have ae := qq F
 clear F
 go_enter func22, ntmps22
 by_cases A : key.size ≤ 1000
 rotate_left 1
 ·have ad : decide ((key.size : Int) ≤ 1000) = false := qg (by omega)
  clear A; go_wp2; go_ret; exact abi D
 have ad : decide ((key.size : Int) ≤ 1000) = true := qp (by omega)
 have aa := qq A
 clear A
 by_cases A : mid.size ≤ 1000
 rotate_left 1
 ·have ac : decide ((mid.size : Int) ≤ 1000) = false := qg (by omega)
  clear A; go_wp2; go_ret; exact abi D
 have ac : decide ((mid.size : Int) ≤ 1000) = true := qp (by omega)
 have af := qq A
 clear A
 go_wp2_with (go_at_call 74; refine (ae.out).mono ?_; rintro e w2 ⟨⟨sb, rfl, N⟩, ab⟩; have z := qq N; clear N; have h := D.trans (ab.mono D.size))
 go_ret
 exact ama (fun ag => ⟨aa.out, af.out, atf (z.out ag)⟩) h
def bcj (w : World) (B : Nat) (v0 v1 v2 v3 v4 v5 v6 v7 v8 : Value) : World := ((((((((w.setCell ⟨B, 0, none⟩ v0).setCell ⟨B, 1, none⟩ v1).setCell ⟨B, 2, none⟩ v2).setCell ⟨B, 3, none⟩ v3).setCell ⟨B, 4, none⟩ v4).setCell ⟨B, 5, none⟩ v5).setCell ⟨B, 6, none⟩ v6).setCell ⟨B, 7, none⟩ v7).setCell ⟨B, 8, none⟩ v8
theorem aas (w : World) (B i : Nat) (v : Value) {S : Nat → Prop} {w0 : World} (h : Upd S w0 w) (A : S B) : Upd S w0 (w.setCell ⟨B, i, none⟩ v) := h.trans (Upd.set (S := fun k => k = B) rfl v) (fun k e _ => by subst e; exact A)
theorem Upd.at9 (w : World) (B : Nat) (M G E K A J I F D : Value) : Upd (fun k => k = B) w (bcj w B M G E K A J I F D) :=
 aas _ B _ _ (aas _ B _ _ (aas _ B _ _ (aas _ B _ _ (aas _ B _ _ (aas _ B _ _ (aas _ B _ _ (aas _ B _ _ (aas _ B _ _ (Upd.refl _ w) rfl) rfl) rfl) rfl) rfl) rfl) rfl) rfl) rfl
theorem Blk.fresh9 {w : World} {B : Nat} {z N h Z W Y c6 U O : Value} (aa : Blk w B [z, N, h, Z, W, Y, c6, U, O]) (E J A D F M K I G : Value) : Blk (bcj w B E J A D F M K I G) B [E, J, A, D, F, M, K, I, G] :=
 ((((((((aa.set 0 E).set 1 J).set 2 A).set 3 D).set 4 F).set 5 M).set 6 K).set 7 I).set 8 G
def ap8 (w : World) (B : Nat) (v4 v5 v6 v7 v8 : Value) : World := ((((w.setCell ⟨B, 4, none⟩ v4).setCell ⟨B, 5, none⟩ v5).setCell ⟨B, 6, none⟩ v6).setCell ⟨B, 7, none⟩ v7).setCell ⟨B, 8, none⟩ v8
theorem Upd.app9 (w : World) (B : Nat) (A G F E D : Value) : Upd (fun k => k = B) w (ap8 w B A G F E D) :=
 aas _ B _ _ (aas _ B _ _ (aas _ B _ _ (aas _ B _ _ (aas _ B _ _ (Upd.refl _ w) rfl) rfl) rfl) rfl) rfl
theorem Blk.app9 {w : World} {B : Nat} {M I K J U W Y O N : Value} (h : Blk w B [M, I, K, J, U, W, Y, O, N]) (A G F E D : Value) : Blk (ap8 w B A G F E D) B [M, I, K, J, A, G, F, E, D] :=
 ((((h.set 4 A).set 5 G).set 6 F).set 7 E).set 8 D
open Go.ChangeShapes Go.WideShapes Go.ChangeAt Go.RowKit Tryz
theorem bbh (a : Addr) (h : a.spot = none) (i : Nat) : a.add i = ⟨a.block, a.off + i, none⟩ := by
 obtain ⟨b, o, s⟩ := a
 subst h
 unfold Addr.add
 split <;> simp_all
section
variable {H : Type} {enc : TypeId × Value → H} {P : Program} {w : World} {base : Nat} {spare : Nat → Bool} {held : Bool}
def anb (k : IntKind) (n : Int) : List Value := [.int k n]
end
theorem Slc.load {A : IntKind} {w : World} {a : Option Addr} {n E : Nat} {L : List Int} (h : Slc (anb A) 1 w (.slice a n E) L) (i : Nat) (hi : i < L.length) :
 ∃ g off, a = some ⟨g, off, none⟩ ∧ w.cell? ⟨g, off + i, none⟩ = some (.int A L[i]) := by
 rcases h with ⟨_, _, D, _, G⟩ | ⟨g, off, I, D, _, _, F⟩
 ·rw [G] at hi; simp at hi
 ·simp only [Value.slice.injEq] at D
  refine ⟨g, off, D.1, ?_⟩; have := F i hi 0 (.int A L[i]) rfl
  simpa using this
section
variable {H : Type} {enc : TypeId × Value → H} {P : Program} {w : World} {base : Nat} {spare : Nat → Bool} {held : Bool}
def ajf (b : Bool) : List Value := [.bool b]
end
theorem alf {P : Prop} (h : P := by
 have hck := hckh.out _ R2 (hT.pure hB12)
 have hckz := qq hck
 clear hck
 go_wp2_with (go_at_call 190; refine (hckz.out).mono ?_; rintro e w3 ⟨rfl, hB3⟩; have hBz := hB12.trans (hB3.mono hB12.size))
 go_ret
 exact ⟨by rw [hf.out]; rfl, hBz⟩) : P := h
theorem aow (t : PT) (P : Nat → Prop) (w : World) (hR : Rd P w t.app) (hT : Tb w) : Calls prog 161 #[t.arg] w fun e w' => e = .returned (.int .i64 t.p.chk) ∧ Below w.heap.size w w' := by
 obtain ⟨key, N, red, mid, tv⟩ := t
 have hR : Rd _ _ tv := hR
 obtain ⟨E, M, K, J, I, G, F, A, D, rfl, -⟩ := hR.open
 rw [PT.arg_mk]
 have af := (qz w.heap.size w).alloc (qj _) (.cells #[.string key, .bool N, .bool red, .string mid, .int .u8 E, .int .u64 M, .string K, .slice J A.length I, .slice G D.length F] 58)
 have A1 := Blk.new w [.string key, .bool N, .bool red, .string mid, .int .u8 E, .int .u64 M, .string K, .slice J A.length I, .slice G D.length F] 58
 have R1 := hR.pure af
 obtain ⟨cx, ag⟩ := qx ((VT.mk E M K (.slice J A.length I) (.slice G D.length F) A D).v.chk)
 have U := qq (show (PT.mk key N red mid (VT.mk E M K (.slice J A.length I) (.slice G D.length F) A D)).p.chk = if key.size ≤ 255 ∧ mid.size ≤ 255 ∧ ((VT.mk E M K (.slice J A.length I) (.slice G D.length F) A D).v = V.zero ∨ E = 168 ∧ cx = 0) then 0 else 90 by rw [← ag, ← (ate : (VT.mk E M K (.slice J A.length I) (.slice G D.length F) A D).v.kind = E)]; rfl)
 have hck := fun (u : World) (R : Rd P u (VT.mk E M K (.slice J A.length I) (.slice G D.length F) A D)) (hu : Tb u) => ajb (VT.mk E M K (.slice J A.length I) (.slice G D.length F) A D) P u R hu
 simp only [ag, VT.arg_mk] at hck
 have hckh := qq hck
 clear ag hck
 obtain ⟨Y, aa⟩ : ∃ Y : Bool, Y = decide ((VT.mk E M K (.slice J A.length I) (.slice G D.length F) A D).v = V.zero) := ⟨_, rfl⟩
 have ae : Calls prog 124 #[(VT.mk E M K (.slice J A.length I) (.slice G D.length F) A D).arg, VT.zero.arg] (w.alloc (.cells #[.string key, .bool N, .bool red, .string mid, .int .u8 E, .int .u64 M, .string K, .slice J A.length I, .slice G D.length F] 58)) fun e w' => e = .returned (.bool Y) ∧ Below (World.heap (w.alloc (.cells #[.string key, .bool N, .bool red, .string mid, .int .u8 E, .int .u64 M, .string K, .slice J A.length I, .slice G D.length F] 58))).size (w.alloc (.cells #[.string key, .bool N, .bool red, .string mid, .int .u8 E, .int .u64 M, .string K, .slice J A.length I, .slice G D.length F] 58)) w' := by
  by_cases hz : (VT.mk E M K (.slice J A.length I) (.slice G D.length F) A D).v = V.zero
  ·rw [aa, qp hz]; exact atd (P2 := fun _ => True) R1 VT.zero_rd (hz.trans VT.zero_vz.symm)
  ·rw [aa, qg hz]; exact awc (P2 := fun _ => True) R1 VT.zero_rd (fun e => hz (e.trans VT.zero_vz))
 rw [VT.arg_mk] at ae
 have ah := qq ae
 have ac := qq (show (Y = true → (VT.mk E M K (.slice J A.length I) (.slice G D.length F) A D).v = V.zero) ∧ (Y = false → ¬ (VT.mk E M K (.slice J A.length I) (.slice G D.length F) A D).v = V.zero) by rw [aa]; exact ⟨qt, jq⟩)
 clear ae aa
 obtain ⟨a0, a1, a2, a3, a4, a5, a6, a7, a8⟩ := A1.a9
 go_enter func161, ntmps161
 go_upto_region 2 with (go_at_call 124; refine (ah.out).mono ?_; rintro e w2 ⟨rfl, ad⟩; have A2 := A1.pure ad; have R2 := R1.pure ad; have hB12 := af.trans (ad.mono af.size); clear a0 a1 a2 a3 a4 a5 a6 a7 a8; obtain ⟨b0, b1, b2, b3, b4, b5, b6, b7, b8⟩ := A2.a9)
 by_cases O : 255 < key.size
 ·have ak : decide ((255 : Int) < (key.size : Int)) = true := qp (by omega)
  have z := qq O; clear O; have hf := qq (show (PT.mk key N red mid (VT.mk E M K (.slice J A.length I) (.slice G D.length F) A D)).p.chk = 90 by rw [U.out]; exact qk (fun e => by have := z.out; omega)); go_wp2; go_ret; exact ⟨by rw [hf.out]; rfl, hB12⟩
 have ak : decide ((255 : Int) < (key.size : Int)) = false := qg (by omega)
 have z := qq (show key.size ≤ 255 by omega)
 clear O
 by_cases O : 255 < mid.size
 ·have ai : decide ((255 : Int) < (mid.size : Int)) = true := qp (by omega)
  have ab := qq O; clear O; have hf := qq (show (PT.mk key N red mid (VT.mk E M K (.slice J A.length I) (.slice G D.length F) A D)).p.chk = 90 by rw [U.out]; exact qk (fun e => by have := ab.out; omega)); go_wp2; go_ret; exact ⟨by rw [hf.out]; rfl, hB12⟩
 have ai : decide ((255 : Int) < (mid.size : Int)) = false := qg (by omega)
 have ab := qq (show mid.size ≤ 255 by omega)
 clear O
 cases Y
 rotate_left 1
 ·
  have hf := qq (show (PT.mk key N red mid (VT.mk E M K (.slice J A.length I) (.slice G D.length F) A D)).p.chk = 0 by rw [U.out]; exact qw ⟨z.out, ab.out, .inl (ac.out.1 rfl)⟩); go_wp2; go_ret; exact ⟨by rw [hf.out]; rfl, hB12⟩
 by_cases W : E = 168
 rotate_left 1
 ·have h3 : decide (E = 168) = false := qg W
  have h4 : (E == 168) = false := ju.2 W; have h5 : (E != 168) = true := bne_iff_ne.2 W; have al := qq W; clear W; have hf := qq (show (PT.mk key N red mid (VT.mk E M K (.slice J A.length I) (.slice G D.length F) A D)).p.chk = 90 by rw [U.out]; exact qk (fun e => by rcases e.2.2 with e | e; exact ac.out.2 rfl e; exact al.out e.1)); go_wp2; go_ret; exact ⟨by rw [hf.out]; rfl, hB12⟩
 subst W
 by_cases Z : cx = 0
 ·subst Z
  have hf := qq (show (PT.mk key N red mid (VT.mk 168 M K (.slice J A.length I) (.slice G D.length F) A D)).p.chk = 0 by rw [U.out]; exact qw ⟨z.out, ab.out, .inr ⟨rfl, rfl⟩⟩); exact alf
 ·have h3 : (cx == 0) = false := ju.2 Z
  have h4 : (cx != 0) = true := bne_iff_ne.2 Z; have aj := qq Z; clear Z; have hf := qq (show (PT.mk key N red mid (VT.mk 168 M K (.slice J A.length I) (.slice G D.length F) A D)).p.chk = 90 by rw [U.out]; exact qk (fun e => by rcases e.2.2 with e | e; exact ac.out.2 rfl e; exact aj.out e.2)); exact alf
def acy : List Bool → Nat
 | [] => 0
 | b :: r => (if b then 1 else 0) + 2 * acy r
theorem aff : ∀ L : List Bool, acy L < 2 ^ L.length
 | [] => by simp [acy]
 | b :: r => by
  have := aff r; unfold acy; rw [jn, Nat.pow_succ]; cases b <;> simp <;> omega
theorem anc : ∀ (L : List Bool) (b : Bool), acy (L ++ [b]) = acy L + (if b then 2 ^ L.length else 0)
 | [], b => by cases b <;> simp [acy]
 | c :: r, b => by
  have := anc r b; rw [List.cons_append]; unfold acy; rw [this, jn, Nat.pow_succ]; cases b <;> simp <;> omega
theorem bbi (n k : Nat) (h : n < 2 ^ k) (A : k < 3) : bits BinOp.or IntKind.u64 (n : Int) (IntKind.u64.wrap (2 ^ k)) = ((n + 2 ^ k : Nat) : Int) := by
 have e : IntKind.u64.wrap ((2 : Int) ^ k) = ((2 ^ k : Nat) : Int) := by
  match k, A with
  | 0, _ => rfl
  | 1, _ => rfl
  | 2, _ => rfl
 have D : 2 ^ k < 2 ^ 64 := by
  match k, A with
  | 0, _ => omega
  | 1, _ => omega
  | 2, _ => omega
 rw [e, ax8 n (2 ^ k) (by omega) D]
 congr 1
 match k, A, n, h with
 | 0, _, 0, _ => rfl
 | 1, _, 0, _ => rfl
 | 1, _, 1, _ => rfl
 | 2, _, 0, _ => rfl
 | 2, _, 1, _ => rfl
 | 2, _, 2, _ => rfl
 | 2, _, 3, _ => rfl
theorem ag1 (w : World) (v : Value) (L : List Bool) (h : Slc ajf 1 w v L) (O : L.length ≤ 3) : Calls prog 166 #[v] w fun e w' => e = .returned (.int .u64 (acy L)) ∧ Below w.heap.size w w' := by
 obtain ⟨z, vc, rfl, -⟩ := h.len
 have W := qq O
 have Z : (L.length : Int) ≤ 3 := by omega
 clear O
 go_enter func166, ntmps166
 go_wp2
 go_loopw [3, 8] (fun K G wr => ∃ k : Nat, k ≤ L.length ∧ G = .int .i64 k ∧ K = .int .u64 (acy (L.take k)) ∧ Below w.heap.size w wr) (fun K G _ => L.length - (intOf G).toNat)
 case atStart => exact ⟨0, by omega, rfl, rfl, qz _ _⟩
 case round =>
  obtain ⟨k, M, rfl, rfl, A⟩ := hrel; by_cases E : k < L.length
  ·have h1 : (k : Int) < (L.length : Int) := by omega
   have F := h.pure A; obtain ⟨g, off, rfl⟩ := F.addrB E; have q := F.get k E 0 _ rfl; rw [Nat.mul_one, Nat.add_zero] at q; have I := qq (show L.take (k + 1) = L.take k ++ [L[k]] from jx E); obtain ⟨b, U⟩ := qx (L[k]); rw [U] at q I; have J := qq (show acy (L.take k) < 2 ^ k by have := aff (L.take k); rwa [List.length_take, Nat.min_eq_left M] at this); have D := qq (show acy (L.take (k + 1)) = acy (L.take k) + (if b then 2 ^ k else 0) by rw [I.out, anc, List.length_take, Nat.min_eq_left M]); obtain ⟨n, N⟩ := qx (acy (L.take k)); rw [N] at J D ⊢; clear U N F; cases b
   ·go_wp2
    go_roundw
    case rel => exact ⟨k + 1, by omega, by go_num, by rw [D.out]; rfl, A⟩
    case measure => simp [intOf]; omega
   ·go_wp2
    go_roundw
    case rel => exact ⟨k + 1, by omega, by go_num, by rw [D.out, bbi n k J.out (by have := W.out; omega)]; rfl, A⟩
    case measure => simp [intOf]; omega
  ·obtain rfl : k = L.length := by omega
   have Y := qq (js (l := L)); go_wp2; go_ret; exact ⟨by rw [Y.out]; rfl, A⟩
theorem Own.cast {A : Type} {base : Nat} {e : TypeId} {m : Nat} {enc : A → List Value} {w : World} {v : Value} {L D : List A} (h : Own base e m enc w v L) (E : L = D) : Own base e m enc w v D := E ▸ h
theorem Own.byte2 (w : World) (F E : UInt8) (A D : Int) (I : A = (F.toNat : Int)) (G : D = (E.toNat : Int)) {base : Nat} (J : base ≤ w.heap.size) :
 Own base 5 1 aax (w.alloc (.cells #[.int .u8 A, .int .u8 D] 5)) (.slice (some ⟨w.heap.size, 0, none⟩) 2 2) [F, E] :=
 ⟨by simp [aax], .inr ⟨w.heap.size, 2, #[.int .u8 A, .int .u8 D], rfl, J, heap_alloc_new w _, by simp, by unfold maxLen; omega, by simp, by subst I G; simp [aax]⟩⟩
theorem ajg {P : Prop} (h : P := by
 subst hk0
 obtain ⟨g, off, rfl⟩ := tr.addrB (show 0 < [s].length by simp)
 have qc := tr.get 0 (by simp) 0 _ rfl
 rw [Nat.mul_one, Nat.add_zero] at qc
 have qc : wr.cell? ⟨g, off + 0, none⟩ = some (.string s) := qc
 have qd : wr.cell? ⟨g, off, none⟩ = some (.string s) := qc
 have hLz := qq (show L.length = 4 by rw [hLe.out]; simp [hl0z.out])
 have hL0 := qq (show L = l0 by rw [hLe.out]; simp)
 by_cases h0 : s.size = 0
 ·obtain rfl : s = ⟨#[]⟩ := af5 h0
  clear h0; go_wp2; go_roundw
  case rel => exact ⟨1, L, rfl, by omega, hOL, qq (by rw [hL0.out]; simp [stx]; rfl), hBr⟩
  case measure => simp [intOf]
 ·have h1 : ¬ s.toList = [] := fun e => h0 (by rw [← acr, e]; rfl)
  have h2 := aeg (show 0 < s.size by omega); have hstx := qq (show stx s = be 1 s.size ++ s.data.toList by unfold stx; rw [qk h0, ap0 (by have := hsh.out; omega)]; rfl); clear h0; go_wp2_with (go_at_call 164; refine (adz _ _ L s 1 (hOL.slc aaa) (by omega) (by have := hsh.out; omega) (by have := hsh.out; have := hLz.out; unfold Big; omega)).mono ?_; rintro e w3 ⟨r3, rfl, O3, hB3⟩; rw [← hstx.out] at O3; have hB3r := hBr.trans (hB3.mono hBr.size); have O3 := O3.rebase (b' := w.heap.size) (fun i hi => jk hBr.size (O3.ge hi))); go_roundw
  case rel => exact ⟨1, L ++ stx s, rfl, by omega, O3, qq (by rw [hL0.out]; simp), hB3r⟩
  case measure => simp [intOf]) : P := h
theorem aox (w : World) (pb q : Nat) (ov tv : Value) (O : List UInt8) (s : ByteArray) (A : Nat) (hq : Blk w q [ov]) (hO : Own (q + 1) 5 1 aax w ov O) (J : Slc abv 1 w tv [s]) (hs : s.size ≤ 255) (hf : A < 256) (ac : O.length ≤ 1000) :
 Calls prog 162 #[.int .u8 1, .int .u64 A, tv, .pointer (some ⟨pb, 0, none⟩), .pointer (some ⟨q, 0, none⟩)] w fun e w' => e = .returned (.tuple #[]) ∧ ∃ r, Blk w' q [r] ∧ Own (q + 1) 5 1 aax w' r (O ++ part ([4, 1, 0, UInt8.ofNat A] ++ stx s)) ∧ Below q w w' := by
 have ad := hq.lt
 obtain ⟨ta, tc, rfl, -⟩ := J.len
 have J : Slc abv 1 w (.slice ta 1 tc) [s] := J
 have aw : (0 : Int) ≤ (A : Int) := by omega
 have al := qq hf
 have hsh := qq hs
 have M := qq ac
 have af := qq ad
 have N := (qz w.heap.size w).alloc (qj _) (.cells #[.int .u8 4, .int .u8 1] 5)
 have am : Own w.heap.size 5 1 aax (w.alloc (.cells #[.int .u8 4, .int .u8 1] 5)) (.slice (some ⟨w.heap.size, 0, none⟩) 2 2) [4, 1] := Own.byte2 w 4 1 4 1 rfl rfl (qj _)
 obtain ⟨l0, U⟩ : ∃ l0 : List UInt8, [4, 1] ++ be 2 A = l0 := ⟨_, rfl⟩
 have ab := qq U
 have hl0z := qq (show l0.length = 4 by rw [← U, jz, aao]; rfl)
 clear hf hs ac ad U
 go_enter func162, ntmps162
 go_wp2_with (go_at_call 163; refine (acg _ _ [4, 1] (A : Int) 2 (am.slc aaa) aw (by unfold Wd; omega) (by unfold Big; simp)).mono ?_; rintro e w1 ⟨r1, rfl, E, aq⟩; rw [Int.toNat_natCast, ab.out] at E; have ar := N.trans (aq.mono N.size); have E := E.rebase (b' := w.heap.size) (fun i hi => jk N.size (E.ge hi)))
 go_loopw [8, 19] (fun s8 aa wr => ∃ (k : Nat) (L : List UInt8), aa = .int .i64 k ∧ k ≤ 1 ∧ Own w.heap.size 5 1 aax wr s8 L ∧ Hid (L = l0 ++ if k = 0 then [] else stx s) ∧ Below w.heap.size w wr) (fun s8 aa _ => 1 - (intOf aa).toNat)
 case atStart => exact ⟨0, l0, rfl, by omega, E, qq (by simp), ar⟩
 case round =>
  obtain ⟨k, L, rfl, hk, hOL, hLe, hBr⟩ := hrel; obtain ⟨ba, bc, rfl⟩ := aap hOL; have tr := J.pure hBr; by_cases hk0 : k = 0
  ·exact ajg
  ·obtain rfl : k = 1 := by omega
   have hL0 := qq (show L = l0 ++ stx s by rw [hLe.out]; simp); have hLz := qq (show L.length ≤ 300 by have h1 := aom s; have h2 := hsh.out; have h3 := hl0z.out; rw [hL0.out, jz]; omega); have z := hq.pure hBr; have av := hO.pure hBr; obtain ⟨oa, oc, rfl⟩ := aap hO; have a0 := z.at 0 rfl; have a1 := z.frozen 0; have ax := qq (show l0 = [4, 1, 0, UInt8.ofNat A] by rw [← ab.out, amw al.out]; rfl); have ag := qq (show q + 1 ≤ wr.heap.size by have h1 := hBr.size; have h2 := af.out; omega); clear hk0 hk; have ak : (0 : Int) ≤ (L.length : Int) := by omega
   have bb : IntKind.u64.wrap (L.length : Int) = (L.length : Int) := bau _ (by omega) (by have := hLz.out; omega); go_wp2_with (first | (go_at_call 163; refine (acg _ _ O (L.length : Int) 4 (av.slc aaa) ak (by unfold Wd; omega) (by have := M.out; unfold Big; omega)).mono ?_; rintro e w5 ⟨r5, rfl, D, F⟩; rw [Int.toNat_natCast] at D; have ao := hBr.trans (F.mono hBr.size); have D := D.rebase (b' := q + 1) (fun i hi => jk (jk ag.out (qj _)) (D.ge hi)); have b5 := (hOL.pure F).slc aaa; have q5 := z.pure F; have z5 := jk ag.out F.size; have e0 := q5.at 0 rfl; have e1 := q5.frozen 0) | (at_builtin; refine aaj (base := q + 1) rfl (.tmp 52) (.tmp 53) 189 5 rfl abx aaa aay _ (O ++ be 4 L.length) rfl D _ L rfl b5 (by have := hLz.out; have := M.out; rw [jz, aao]; unfold maxLen; omega) (by have := hLz.out; have := M.out; rw [jz, aao]; omega) z5 ?_; intro v6 w6 G aj az ay; have ae := Upd.grown (S := fun k => q + 1 ≤ k) aj (fun j e => D.ge e); have I := q5.upd ae (fun e => by omega); have y0 := I.at 0 rfl; have y1 := I.frozen 0; obtain ⟨K, Y⟩ := qx ((O ++ be 4 L.length) ++ L); rw [Y] at G; have ah := qq Y; clear Y; obtain ⟨W, Z, rfl⟩ := aap G)); have q7 := I.set 0 (.slice W K.length Z); have au := G.other ⟨q, 0, none⟩ (.slice W K.length Z) (fun i hi e => by have h1 := G.ge hi; have h2 : i = q := e; omega); have an := ((ao.mono (Nat.le_of_lt af.out)).trans (ae.below (jk (Nat.le_succ q) z5) (fun i hi => by omega))).trans ((Upd.set (S := fun i => i = q) (w := w6) (p := ⟨q, 0, none⟩) rfl (.slice W K.length Z)).below (B := q) (by have h1 := I.lt; omega) (fun i hi => by omega)); go_end0; have ai : K = O ++ part ([4, 1, 0, UInt8.ofNat A] ++ stx s) := by rw [← ah.out, ← ax.out, ← hL0.out]; unfold part; rw [List.append_assoc]
   exact ⟨rfl, _, q7, au.cast ai, an⟩
theorem ajh (w : World) (pb q : Nat) (ov tv : Value) (O : List UInt8) (s : ByteArray) (F : Nat) (hq : Blk w q [ov]) (hO : Own (q + 1) 5 1 aax w ov O) (ht : Slc abv 1 w tv [s]) (hs : s.size ≤ 255) (hf : F < 256) (bm : O.length ≤ 1000) (key mid : ByteArray) (cd red : Bool) (z tn : Int) (Z : ByteArray) (Y : Option Addr) (U : Nat) (W : Option Addr) (N : Nat) (A : List ByteArray) (D : List VT) (P : Nat → Prop) (mb : Bool) (hA : Blk w pb [.string key, .bool cd, .bool red, .string mid, .int .u8 z, .int .u64 tn, .string Z, .slice Y A.length U, .slice W D.length N]) (hR : Rd P w (VT.mk z tn Z (.slice Y A.length U) (.slice W D.length N) A D)) (hT : Tb w) (cc : (bits BinOp.and IntKind.u64 (F : Int) 2 != 0) = mb) (b4 : mb = true → (VT.mk z tn Z (.slice Y A.length U) (.slice W D.length N) A D).v.chk = 0) :
 Calls prog 162 #[.int .u8 3, .int .u64 F, tv, .pointer (some ⟨pb, 0, none⟩), .pointer (some ⟨q, 0, none⟩)] w fun e w' => e = .returned (.tuple #[]) ∧ ∃ r, Blk w' q [r] ∧ Own (q + 1) 5 1 aax w' r (O ++ part ([4, 3, 0, UInt8.ofNat F] ++ stx s ++ (if mb = true then (VT.mk z tn Z (.slice Y A.length U) (.slice W D.length N) A D).v.bytes else []))) ∧ Below q w w' := by
 have bp := hq.lt
 obtain ⟨ta, tc, rfl, -⟩ := ht.len
 have ht : Slc abv 1 w (.slice ta 1 tc) [s] := ht
 have cg : (0 : Int) ≤ (F : Int) := by omega
 have b3 := qq hf
 have hsh := qq hs
 have ae := qq bm
 have ag := qq bp
 have ar := (qz w.heap.size w).alloc (qj _) (.cells #[.int .u8 4, .int .u8 3] 5)
 have b6 : Own w.heap.size 5 1 aax (w.alloc (.cells #[.int .u8 4, .int .u8 3] 5)) (.slice (some ⟨w.heap.size, 0, none⟩) 2 2) [4, 3] := Own.byte2 w 4 3 4 3 rfl rfl (qj _)
 obtain ⟨l0, bb⟩ : ∃ l0 : List UInt8, [4, 3] ++ be 2 F = l0 := ⟨_, rfl⟩
 have bi := qq bb
 have hl0z := qq (show l0.length = 4 by rw [← bb, jz, aao]; rfl)
 clear hf hs bm bp bb
 go_enter func162, ntmps162
 go_wp2_with (go_at_call 163; refine (acg _ _ [4, 3] (F : Int) 2 (b6.slc aaa) cg (by unfold Wd; omega) (by unfold Big; simp)).mono ?_; rintro e w1 ⟨r1, rfl, O1, ce⟩; rw [Int.toNat_natCast, bi.out] at O1; have cf := ar.trans (ce.mono ar.size); have O1 := O1.rebase (b' := w.heap.size) (fun i hi => jk ar.size (O1.ge hi)))
 go_loopw [8, 19] (fun s8 bg wr => ∃ (k : Nat) (L : List UInt8), bg = .int .i64 k ∧ k ≤ 1 ∧ Own w.heap.size 5 1 aax wr s8 L ∧ Hid (L = l0 ++ if k = 0 then [] else stx s) ∧ Below w.heap.size w wr) (fun s8 bg _ => 1 - (intOf bg).toNat)
 case atStart => exact ⟨0, l0, rfl, by omega, O1, qq (by simp), cf⟩
 case round =>
  obtain ⟨k, L, rfl, hk, hOL, hLe, hBr⟩ := hrel; obtain ⟨ba, bc, rfl⟩ := aap hOL; have tr := ht.pure hBr; by_cases hk0 : k = 0
  ·exact ajg
  ·obtain rfl : k = 1 := by omega
   have hL0 := qq (show L = l0 ++ stx s by rw [hLe.out]; simp); have hLz := qq (show L.length ≤ 300 by have h1 := aom s; have h2 := hsh.out; have h3 := hl0z.out; rw [hL0.out, jz]; omega); have ah := hq.pure hBr; have b8 := hO.pure hBr; obtain ⟨oa, oc, rfl⟩ := aap hO; have bn := ah.at 0 rfl; have bo := ah.frozen 0; have br := qq (show l0 = [4, 3, 0, UInt8.ofNat F] by rw [← bi.out, amw b3.out]; rfl); have bt := qq (show q + 1 ≤ wr.heap.size by have h1 := hBr.size; have h2 := ag.out; omega); clear hk0 hk; have cb := hA.pure hBr; have b7 := hR.pure hBr; cases mb
   ·have cl := qq cc
    have am : (0 : Int) ≤ (L.length : Int) := by omega
    have ca : IntKind.u64.wrap (L.length : Int) = (L.length : Int) := bau _ (by omega) (by have := hLz.out; omega); go_wp2_with (first | (go_at_call 163; refine (acg _ _ O (L.length : Int) 4 (b8.slc aaa) am (by unfold Wd; omega) (by have := ae.out; unfold Big; omega)).mono ?_; rintro e w5 ⟨r5, rfl, E, G⟩; rw [Int.toNat_natCast] at E; have av := hBr.trans (G.mono hBr.size); have E := E.rebase (b' := q + 1) (fun i hi => jk (jk bt.out (qj _)) (E.ge hi)); have b5 := (hOL.pure G).slc aaa; have q5 := ah.pure G; have z5 := jk bt.out G.size; have e0 := q5.at 0 rfl; have e1 := q5.frozen 0) | (at_builtin; refine aaj (base := q + 1) rfl (.tmp 52) (.tmp 53) 189 5 rfl abx aaa aay _ (O ++ be 4 L.length) rfl E _ L rfl b5 (by have := hLz.out; have := ae.out; rw [jz, aao]; unfold maxLen; omega) (by have := hLz.out; have := ae.out; rw [jz, aao]; omega) z5 ?_; intro v6 w6 I al bw b0; have af := Upd.grown (S := fun k => q + 1 ≤ k) al (fun j e => E.ge e); have J := q5.upd af (fun e => by omega); have y0 := J.at 0 rfl; have y1 := J.frozen 0; obtain ⟨M, ac⟩ := qx ((O ++ be 4 L.length) ++ L); rw [ac] at I; have ak := qq ac; clear ac; obtain ⟨ab, ad, rfl⟩ := aap I)); have q7 := J.set 0 (.slice ab M.length ad); have aw := I.other ⟨q, 0, none⟩ (.slice ab M.length ad) (fun i hi e => by have h1 := I.ge hi; have h2 : i = q := e; omega); have aa := ((av.mono (Nat.le_of_lt ag.out)).trans (af.below (jk (Nat.le_succ q) z5) (fun i hi => by omega))).trans ((Upd.set (S := fun i => i = q) (w := w6) (p := ⟨q, 0, none⟩) rfl (.slice ab M.length ad)).below (B := q) (by have h1 := J.lt; omega) (fun i hi => by omega)); go_end0; have ao : M = O ++ part ([4, 3, 0, UInt8.ofNat F] ++ stx s ++ (if false = true then (VT.mk z tn Z (.slice Y A.length U) (.slice W D.length N) A D).v.bytes else [])) := by rw [qk (by simp), List.append_nil, ← ak.out, ← br.out, ← hL0.out]; unfold part; rw [List.append_assoc]
    exact ⟨rfl, _, q7, by simpa using aw.cast ao, aa⟩
   ·obtain ⟨xt, ai⟩ := qx ((VT.mk z tn Z (.slice Y A.length U) (.slice W D.length N) A D).v.bytes)
    have az := b4 rfl; obtain ⟨-, bq, bj⟩ := al3 az; have au := qq (show xt.length ≤ 1000000 by have h4 := aiv _ bj 200 bq; rw [ai] at h4; omega); have ay := av9 (VT.mk z tn Z (.slice Y A.length U) (.slice W D.length N) A D) P wr b7 (hT.pure hBr); rw [az, qw rfl, ai, VT.arg_mk] at ay; have bx := qq ay; have b2 := qq ai; obtain ⟨a0, a1, a2, a3, a4, a5, a6, a7, a8⟩ := cb.a9; clear bq bj ay az ai; go_upto_region 10 with (first | (go_at_call 165; (with_reducible refine (bx.out).mono ?_); rintro e w7 ⟨r7, rfl, O7, aa⟩; obtain ⟨ra, rc, rfl⟩ := aap O7; have P7 := hOL.pure aa; have bf := hBr.trans (aa.mono hBr.size); have bu := ah.pure aa) | (at_builtin; refine aaj (base := w.heap.size) rfl (.tmp 45) (.tmp 46) 189 5 rfl abx aaa aay _ L rfl P7 _ xt rfl (O7.slc aaa) (by have := hLz.out; have := au.out; unfold maxLen; omega) (by have := hLz.out; have := au.out; omega) bf.size ?_; intro v8 w8 ax bh ch ci; have aj := bf.grown bh bf.size (fun j e => P7.ge e); obtain ⟨K, bd⟩ := qx (L ++ xt); rw [bd] at ax; have bk := qq bd; clear bd; obtain ⟨cj, ck, rfl⟩ := aap ax)); have b9 := Upd.grown (S := fun k => w.heap.size ≤ k) bh (fun j e => P7.ge e); have aq := bu.upd b9 (fun e => by have := ag.out; omega); have b1 := hO.pure aj; have bl := qq (show q + 1 ≤ w8.heap.size by have h1 := aj.size; have h2 := ag.out; omega); have an := qq (show K.length ≤ 1000300 by have h1 := hLz.out; have h2 := au.out; rw [← bk.out, jz]; omega); clear bn bo a0 a1 a2 a3 a4 a5 a6 a7 a8; have bn := aq.at 0 rfl; have bo := aq.frozen 0; have am : (0 : Int) ≤ (K.length : Int) := by omega
    have ca : IntKind.u64.wrap (K.length : Int) = (K.length : Int) := bau _ (by omega) (by have := an.out; omega); go_wp2_with (first | (go_at_call 163; refine (acg _ _ O (K.length : Int) 4 (b1.slc aaa) am (by unfold Wd; omega) (by have := ae.out; unfold Big; omega)).mono ?_; rintro e w5 ⟨r5, rfl, E, G⟩; rw [Int.toNat_natCast] at E; have av := aj.trans (G.mono aj.size); have E := E.rebase (b' := q + 1) (fun i hi => jk (jk bl.out (qj _)) (E.ge hi)); have b5 := (ax.pure G).slc aaa; have q5 := aq.pure G; have z5 := jk bl.out G.size; have e0 := q5.at 0 rfl; have e1 := q5.frozen 0) | (at_builtin; refine aaj (base := q + 1) rfl (.tmp 52) (.tmp 53) 189 5 rfl abx aaa aay _ (O ++ be 4 K.length) rfl E _ K rfl b5 (by have := an.out; have := ae.out; rw [jz, aao]; unfold maxLen; omega) (by have := an.out; have := ae.out; rw [jz, aao]; omega) z5 ?_; intro v6 w6 I al bw b0; have af := Upd.grown (S := fun k => q + 1 ≤ k) al (fun j e => E.ge e); have J := q5.upd af (fun e => by omega); have y0 := J.at 0 rfl; have y1 := J.frozen 0; obtain ⟨M, ac⟩ := qx ((O ++ be 4 K.length) ++ K); rw [ac] at I; have ak := qq ac; clear ac; obtain ⟨ab, ad, rfl⟩ := aap I)); have q7 := J.set 0 (.slice ab M.length ad); have aw := I.other ⟨q, 0, none⟩ (.slice ab M.length ad) (fun i hi e => by have h1 := I.ge hi; have h2 : i = q := e; omega); have aa := ((av.mono (Nat.le_of_lt ag.out)).trans (af.below (jk (Nat.le_succ q) z5) (fun i hi => by omega))).trans ((Upd.set (S := fun i => i = q) (w := w6) (p := ⟨q, 0, none⟩) rfl (.slice ab M.length ad)).below (B := q) (by have h1 := J.lt; omega) (fun i hi => by omega)); go_end0; have ao : M = O ++ part ([4, 3, 0, UInt8.ofNat F] ++ stx s ++ (if true = true then (VT.mk z tn Z (.slice Y A.length U) (.slice W D.length N) A D).v.bytes else [])) := by rw [qw rfl, b2.out, ← ak.out, ← br.out, ← hL0.out, bk.out]; unfold part; rw [List.append_assoc]
    exact ⟨rfl, _, q7, by simpa using aw.cast ao, aa⟩
end Go.Proofs.YtgnaifhmcllnlaaGreatDoor
