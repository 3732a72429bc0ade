/- Values: Same, the program's. No condition. Written by gen_valAA.py. (Texts joined.) -/
import Derived.Test.YtflglpbjapgciaaGreatDoorKQ

namespace Go.Proofs.YtflglpbjapgciaaGreatDoor
set_option linter.unusedSimpArgs false
set_option linter.unusedVariables false
open Go.RowKit
theorem v_same (k n : Int) (s : ByteArray) (kv lv : Value) (ks : List ByteArray) (l : List VT) (k2 n2 : Int) (s2 : ByteArray) (kv2 lv2 : Value) (ks2 : List ByteArray) (l2 : List VT) :
    (VT.mk k n s kv lv ks l).v = (VT.mk k2 n2 s2 kv2 lv2 ks2 l2).v ↔ k = k2 ∧ n = n2 ∧ s = s2 ∧ ks = ks2 ∧ l.map VT.v = l2.map VT.v := by
  rw [VT.v_eq, VT.v_eq]
  exact Iff.of_eq (V.mk.injEq ..)
theorem ba_toList_ne {a b : ByteArray} (h : a ≠ b) : ¬ a.toList = b.toList := by
  intro e
  apply h
  have : a.data.toList = b.data.toList := by rw [ByteArray.toList_eq, ByteArray.toList_eq] at e; exact e
  cases a; cases b; simp only [ByteArray.mk.injEq]; exact Array.toList_inj.1 this
theorem ba_bne {a b : ByteArray} (h : a ≠ b) : (a != b) = true := by
  unfold bne; rw [beq_toListBytes, beq_eq_false_iff_ne.2 (ba_toList_ne h)]; rfl
set_option maxRecDepth 100000 in
set_option maxHeartbeats 3200000 in
theorem dsame_any (t : VT) : ∀ (u : VT) (P P2 : Nat → Prop) (w : World), Rd P w t → Rd P2 w u → Calls Tryz.prog 94 #[t.arg, u.arg] w fun e w' => (∃ b : Bool, e = .returned (.bool b) ∧ (b = true ↔ t.v = u.v)) ∧ Below w.heap.size w w' := by
  induction t using VT.ind with
  | h t ih =>
    intro u P P2 w hR hR2
    have hsub : ∀ x ∈ t.l, Rd P w x := hR.sub
    have hsub2 : ∀ x ∈ u.l, Rd P2 w x := hR2.sub
    obtain ⟨tk, tn, ts, ka, kc, la, lc, ks, l, rfl, hK, hL, hmk, hml⟩ := hR.open
    obtain ⟨uk, un, us, va, vc, xa, xc, ks2, l2, rfl, hK2, hL2, hmk2, hml2⟩ := hR2.open
    simp only [VT.arg_mk, v_same]
    have ih' : ∀ x ∈ l, ∀ (u : VT) (P P2 : Nat → Prop) (w : World), Rd P w x → Rd P2 w u → Calls Tryz.prog 94 #[x.arg, u.arg] w fun e w' => (∃ b : Bool, e = .returned (.bool b) ∧ (b = true ↔ x.v = u.v)) ∧ Below w.heap.size w w' := ih
    have hsub' : ∀ x ∈ l, Rd P w x := hsub
    have hsub2' : ∀ x ∈ l2, Rd P2 w x := hsub2
    have ihh := Lib.hid ih'
    have hsubh := Lib.hid hsub'
    have hsub2h := Lib.hid hsub2'
    clear ih ih' hR hR2 hsub hsub2 hsub' hsub2' hmk2 hml2
    by_cases e : tk = uk
    rotate_left 1
    · have h1 : (tk != uk) = true := bne_iff_ne.2 e
      have hno := Lib.hid (e)
      clear e
      have hB0 := ((Below.refl w.heap.size w).alloc (Nat.le_refl _) (.cells #[.int .u8 tk, .int .u64 tn, .string ts, .slice ka ks.length kc, .slice la l.length lc] 60))
      have hB1 := hB0.alloc hB0.size (.cells #[.int .u8 uk, .int .u64 un, .string us, .slice va ks2.length vc, .slice xa l2.length xc] 60)
      have b0 := (Blk.new w [.int .u8 tk, .int .u64 tn, .string ts, .slice ka ks.length kc, .slice la l.length lc] 60).alloc (.cells #[.int .u8 uk, .int .u64 un, .string us, .slice va ks2.length vc, .slice xa l2.length xc] 60)
      have b1 := Blk.new (w.alloc (.cells #[.int .u8 tk, .int .u64 tn, .string ts, .slice ka ks.length kc, .slice la l.length lc] 60)) [.int .u8 uk, .int .u64 un, .string us, .slice va ks2.length vc, .slice xa l2.length xc] 60
      rw [show (w.alloc (.cells #[.int .u8 tk, .int .u64 tn, .string ts, .slice ka ks.length kc, .slice la l.length lc] 60)).heap.size = w.heap.size + 1 by simp] at b1
      have c0 := b0.at 0 rfl; have c1 := b0.at 1 rfl; have c2 := b0.at 2 rfl; have c3 := b0.at 3 rfl; have c4 := b0.at 4 rfl
      have d0 := b1.at 0 rfl; have d1 := b1.at 1 rfl; have d2 := b1.at 2 rfl; have d3 := b1.at 3 rfl; have d4 := b1.at 4 rfl
      go_enter Tryz.func94, Tryz.ntmps94
      go_wp2
      go_ret
      exact ⟨⟨false, rfl, ⟨fun h => absurd h (by simp), fun h => absurd h.1 hno.out⟩⟩, hB1⟩
    subst e
    by_cases e : tn = un
    rotate_left 1
    · have h1 : (tn != un) = true := bne_iff_ne.2 e
      have hno := Lib.hid (e)
      clear e
      have hB0 := ((Below.refl w.heap.size w).alloc (Nat.le_refl _) (.cells #[.int .u8 tk, .int .u64 tn, .string ts, .slice ka ks.length kc, .slice la l.length lc] 60))
      have hB1 := hB0.alloc hB0.size (.cells #[.int .u8 tk, .int .u64 un, .string us, .slice va ks2.length vc, .slice xa l2.length xc] 60)
      have b0 := (Blk.new w [.int .u8 tk, .int .u64 tn, .string ts, .slice ka ks.length kc, .slice la l.length lc] 60).alloc (.cells #[.int .u8 tk, .int .u64 un, .string us, .slice va ks2.length vc, .slice xa l2.length xc] 60)
      have b1 := Blk.new (w.alloc (.cells #[.int .u8 tk, .int .u64 tn, .string ts, .slice ka ks.length kc, .slice la l.length lc] 60)) [.int .u8 tk, .int .u64 un, .string us, .slice va ks2.length vc, .slice xa l2.length xc] 60
      rw [show (w.alloc (.cells #[.int .u8 tk, .int .u64 tn, .string ts, .slice ka ks.length kc, .slice la l.length lc] 60)).heap.size = w.heap.size + 1 by simp] at b1
      have c0 := b0.at 0 rfl; have c1 := b0.at 1 rfl; have c2 := b0.at 2 rfl; have c3 := b0.at 3 rfl; have c4 := b0.at 4 rfl
      have d0 := b1.at 0 rfl; have d1 := b1.at 1 rfl; have d2 := b1.at 2 rfl; have d3 := b1.at 3 rfl; have d4 := b1.at 4 rfl
      go_enter Tryz.func94, Tryz.ntmps94
      go_wp2
      go_ret
      exact ⟨⟨false, rfl, ⟨fun h => absurd h (by simp), fun h => absurd h.2.1 hno.out⟩⟩, hB1⟩
    subst e
    by_cases e : ts = us
    rotate_left 1
    · have h1 : ¬ ts.toList = us.toList := ba_toList_ne e
      have hno := Lib.hid (e)
      clear e
      have hB0 := ((Below.refl w.heap.size w).alloc (Nat.le_refl _) (.cells #[.int .u8 tk, .int .u64 tn, .string ts, .slice ka ks.length kc, .slice la l.length lc] 60))
      have hB1 := hB0.alloc hB0.size (.cells #[.int .u8 tk, .int .u64 tn, .string us, .slice va ks2.length vc, .slice xa l2.length xc] 60)
      have b0 := (Blk.new w [.int .u8 tk, .int .u64 tn, .string ts, .slice ka ks.length kc, .slice la l.length lc] 60).alloc (.cells #[.int .u8 tk, .int .u64 tn, .string us, .slice va ks2.length vc, .slice xa l2.length xc] 60)
      have b1 := Blk.new (w.alloc (.cells #[.int .u8 tk, .int .u64 tn, .string ts, .slice ka ks.length kc, .slice la l.length lc] 60)) [.int .u8 tk, .int .u64 tn, .string us, .slice va ks2.length vc, .slice xa l2.length xc] 60
      rw [show (w.alloc (.cells #[.int .u8 tk, .int .u64 tn, .string ts, .slice ka ks.length kc, .slice la l.length lc] 60)).heap.size = w.heap.size + 1 by simp] at b1
      have c0 := b0.at 0 rfl; have c1 := b0.at 1 rfl; have c2 := b0.at 2 rfl; have c3 := b0.at 3 rfl; have c4 := b0.at 4 rfl
      have d0 := b1.at 0 rfl; have d1 := b1.at 1 rfl; have d2 := b1.at 2 rfl; have d3 := b1.at 3 rfl; have d4 := b1.at 4 rfl
      go_enter Tryz.func94, Tryz.ntmps94
      go_wp2
      go_ret
      exact ⟨⟨false, rfl, ⟨fun h => absurd h (by simp), fun h => absurd h.2.2.1 hno.out⟩⟩, hB1⟩
    subst e
    by_cases e : ks2.length = ks.length
    rotate_left 1
    · have h1 : ¬ (ks.length : Int) = (ks2.length : Int) := by omega
      have hno := Lib.hid (fun h : ks = ks2 => e (by rw [h]))
      clear e
      have hB0 := ((Below.refl w.heap.size w).alloc (Nat.le_refl _) (.cells #[.int .u8 tk, .int .u64 tn, .string ts, .slice ka ks.length kc, .slice la l.length lc] 60))
      have hB1 := hB0.alloc hB0.size (.cells #[.int .u8 tk, .int .u64 tn, .string ts, .slice va ks2.length vc, .slice xa l2.length xc] 60)
      have b0 := (Blk.new w [.int .u8 tk, .int .u64 tn, .string ts, .slice ka ks.length kc, .slice la l.length lc] 60).alloc (.cells #[.int .u8 tk, .int .u64 tn, .string ts, .slice va ks2.length vc, .slice xa l2.length xc] 60)
      have b1 := Blk.new (w.alloc (.cells #[.int .u8 tk, .int .u64 tn, .string ts, .slice ka ks.length kc, .slice la l.length lc] 60)) [.int .u8 tk, .int .u64 tn, .string ts, .slice va ks2.length vc, .slice xa l2.length xc] 60
      rw [show (w.alloc (.cells #[.int .u8 tk, .int .u64 tn, .string ts, .slice ka ks.length kc, .slice la l.length lc] 60)).heap.size = w.heap.size + 1 by simp] at b1
      have c0 := b0.at 0 rfl; have c1 := b0.at 1 rfl; have c2 := b0.at 2 rfl; have c3 := b0.at 3 rfl; have c4 := b0.at 4 rfl
      have d0 := b1.at 0 rfl; have d1 := b1.at 1 rfl; have d2 := b1.at 2 rfl; have d3 := b1.at 3 rfl; have d4 := b1.at 4 rfl
      go_enter Tryz.func94, Tryz.ntmps94
      go_wp2
      go_ret
      exact ⟨⟨false, rfl, ⟨fun h => absurd h (by simp), fun h => absurd h.2.2.2.1 hno.out⟩⟩, hB1⟩
    rw [e] at hK2 ⊢
    have hkl := Lib.hid e
    clear e
    by_cases e : l2.length = l.length
    rotate_left 1
    · have h1 : ¬ (l.length : Int) = (l2.length : Int) := by omega
      have h2 : ((l.length : Int) != (l2.length : Int)) = true := bne_iff_ne.2 h1
      have hno := Lib.hid (fun h : l.map VT.v = l2.map VT.v => e (by have := congrArg List.length h; simpa using this.symm))
      clear e
      have hB0 := ((Below.refl w.heap.size w).alloc (Nat.le_refl _) (.cells #[.int .u8 tk, .int .u64 tn, .string ts, .slice ka ks.length kc, .slice la l.length lc] 60))
      have hB1 := hB0.alloc hB0.size (.cells #[.int .u8 tk, .int .u64 tn, .string ts, .slice va ks.length vc, .slice xa l2.length xc] 60)
      have b0 := (Blk.new w [.int .u8 tk, .int .u64 tn, .string ts, .slice ka ks.length kc, .slice la l.length lc] 60).alloc (.cells #[.int .u8 tk, .int .u64 tn, .string ts, .slice va ks.length vc, .slice xa l2.length xc] 60)
      have b1 := Blk.new (w.alloc (.cells #[.int .u8 tk, .int .u64 tn, .string ts, .slice ka ks.length kc, .slice la l.length lc] 60)) [.int .u8 tk, .int .u64 tn, .string ts, .slice va ks.length vc, .slice xa l2.length xc] 60
      rw [show (w.alloc (.cells #[.int .u8 tk, .int .u64 tn, .string ts, .slice ka ks.length kc, .slice la l.length lc] 60)).heap.size = w.heap.size + 1 by simp] at b1
      have c0 := b0.at 0 rfl; have c1 := b0.at 1 rfl; have c2 := b0.at 2 rfl; have c3 := b0.at 3 rfl; have c4 := b0.at 4 rfl
      have d0 := b1.at 0 rfl; have d1 := b1.at 1 rfl; have d2 := b1.at 2 rfl; have d3 := b1.at 3 rfl; have d4 := b1.at 4 rfl
      go_enter Tryz.func94, Tryz.ntmps94
      go_wp2
      go_ret
      exact ⟨⟨false, rfl, ⟨fun h => absurd h (by simp), fun h => absurd h.2.2.2.2 hno.out⟩⟩, hB1⟩
    rw [e] at hL2 ⊢
    have hll := Lib.hid e
    clear e
    have hB0 := ((Below.refl w.heap.size w).alloc (Nat.le_refl _) (.cells #[.int .u8 tk, .int .u64 tn, .string ts, .slice ka ks.length kc, .slice la l.length lc] 60))
    have hB1 := hB0.alloc hB0.size (.cells #[.int .u8 tk, .int .u64 tn, .string ts, .slice va ks.length vc, .slice xa l.length xc] 60)
    have b0 := (Blk.new w [.int .u8 tk, .int .u64 tn, .string ts, .slice ka ks.length kc, .slice la l.length lc] 60).alloc (.cells #[.int .u8 tk, .int .u64 tn, .string ts, .slice va ks.length vc, .slice xa l.length xc] 60)
    have b1 := Blk.new (w.alloc (.cells #[.int .u8 tk, .int .u64 tn, .string ts, .slice ka ks.length kc, .slice la l.length lc] 60)) [.int .u8 tk, .int .u64 tn, .string ts, .slice va ks.length vc, .slice xa l.length xc] 60
    rw [show (w.alloc (.cells #[.int .u8 tk, .int .u64 tn, .string ts, .slice ka ks.length kc, .slice la l.length lc] 60)).heap.size = w.heap.size + 1 by simp] at b1
    have c0 := b0.at 0 rfl; have c1 := b0.at 1 rfl; have c2 := b0.at 2 rfl; have c3 := b0.at 3 rfl; have c4 := b0.at 4 rfl
    have d0 := b1.at 0 rfl; have d1 := b1.at 1 rfl; have d2 := b1.at 2 rfl; have d3 := b1.at 3 rfl; have d4 := b1.at 4 rfl
    go_enter Tryz.func94, Tryz.ntmps94
    go_wp2
    go_loopw [5] (fun s5 wr => ∃ (k : Nat), k ≤ ks.length ∧ s5 = .int .i64 k ∧ Hid (ks.take k = ks2.take k) ∧ Blk wr w.heap.size [.int .u8 tk, .int .u64 tn, .string ts, .slice ka ks.length kc, .slice la l.length lc] ∧ Blk wr (w.heap.size + 1) [.int .u8 tk, .int .u64 tn, .string ts, .slice va ks.length vc, .slice xa l.length xc] ∧ Below w.heap.size w wr) (fun s5 _ => ks.length - (intOf s5).toNat)
    case atStart => exact ⟨0, by omega, rfl, Lib.hid (by simp), b0, b1, hB1⟩
    case round =>
      clear c0 c1 c2 c3 c4 d0 d1 d2 d3 d4 b0 b1 hB0 hB1
      obtain ⟨k, hk, rfl, htk, b, b2, hB⟩ := hrel
      have c3 := b.at 3 rfl; have d3 := b2.at 3 rfl
      by_cases hlt : k < ks.length
      · have h1 : (k : Int) < (ks.length : Int) := by omega
        have hlt2 : k < ks2.length := by rw [hkl.out]; exact hlt
        have hKr := hK.pure hB
        have hKr2 := hK2.pure hB
        rw [← hkl.out] at hKr2
        obtain ⟨kg, koff, rfl⟩ := hKr.addrB hlt
        obtain ⟨vg, voff, rfl⟩ := hKr2.addrB hlt2
        have kq := hKr.get k hlt 0 _ rfl
        have vq := hKr2.get k hlt2 0 _ rfl
        rw [Nat.mul_one, Nat.add_zero] at kq vq
        obtain ⟨kx, hkx⟩ : ∃ kx, ks[k] = kx := ⟨_, rfl⟩
        obtain ⟨vx, hvx⟩ : ∃ vx, ks2[k] = vx := ⟨_, rfl⟩
        rw [hkx] at kq
        rw [hvx] at vq
        by_cases e : kx = vx
        rotate_left 1
        · have h2 : ¬ kx.toList = vx.toList := ba_toList_ne e
          have h3 : (!kx.toList == vx.toList) = true := by rw [beq_eq_false_iff_ne.2 h2]; rfl
          have hno := Lib.hid (fun h : ks = ks2 => e (by rw [← hkx, ← hvx]; simp [h]))
          clear e hkx hvx hKr hKr2
          go_wp2
          go_region
          go_wp2
          go_ret
          exact ⟨⟨false, rfl, ⟨fun h => absurd h (by simp), fun h => absurd h.2.2.2.1 hno.out⟩⟩, below_dr hB⟩
        · subst e
          have h3 : (!kx.toList == kx.toList) = false := by simp
          have hst := Lib.hid (show ks.take (k + 1) = ks2.take (k + 1) by rw [List.take_succ_eq_append_getElem hlt, List.take_succ_eq_append_getElem hlt2, htk.out, hkx, hvx])
          clear hkx hvx hKr hKr2
          go_wp2
          go_region
          go_wp2
          go_roundw
          case rel => exact ⟨k + 1, by omega, by go_num, hst, b.drew, b2.drew, below_dr hB⟩
          case measure => simp [intOf]; omega
      · obtain rfl : k = ks.length := by omega
        have hks := Lib.hid (show ks = ks2 by have h := htk.out; rw [List.take_length, List.take_of_length_le (by rw [hkl.out]; exact Nat.le_refl _)] at h; exact h)
        go_wp2
        go_loopw [6] (fun s5 wr => ∃ (k : Nat), k ≤ l.length ∧ s5 = .int .i64 k ∧ Hid ((l.map VT.v).take k = (l2.map VT.v).take k) ∧ Blk wr w.heap.size [.int .u8 tk, .int .u64 tn, .string ts, .slice ka ks.length kc, .slice la l.length lc] ∧ Blk wr (w.heap.size + 1) [.int .u8 tk, .int .u64 tn, .string ts, .slice va ks.length vc, .slice xa l.length xc] ∧ Below w.heap.size w wr) (fun s5 _ => l.length - (intOf s5).toNat)
        case atStart => exact ⟨0, by omega, rfl, Lib.hid (by simp), b, b2, hB⟩
        case round =>
          clear c3 d3 b b2 hB htk hk hlt
          obtain ⟨k, hk, rfl, htk, b, b2, hB⟩ := hrel
          have c4 := b.at 4 rfl; have d4 := b2.at 4 rfl
          by_cases hlt : k < l.length
          · have h1 : (k : Int) < (l.length : Int) := by omega
            have hlt2 : k < l2.length := by rw [hll.out]; exact hlt
            have hLr := hL.pure hB
            have hLr2 := hL2.pure hB
            rw [← hll.out] at hLr2
            obtain ⟨g, off, rfl⟩ := hLr.addrB hlt
            obtain ⟨g2, off2, rfl⟩ := hLr2.addrB hlt2
            have hRk := (hsubh.out l[k] (List.getElem_mem hlt)).pure hB
            have hRk2 := (hsub2h.out l2[k] (List.getElem_mem hlt2)).pure hB
            have hi := ihh.out l[k] (List.getElem_mem hlt) l2[k] P P2 _ ((hsubh.out l[k] (List.getElem_mem hlt)).pure (below_dr hB)) ((hsub2h.out l2[k] (List.getElem_mem hlt2)).pure (below_dr hB))
            obtain ⟨xk, xn, xs, xka, xkl, xkc, xla, xll, xlc, xks, xl, hx, q0, q1, q2, q3, q4⟩ := v_elem hLr hlt hRk
            obtain ⟨yk, yn, ys, yka, ykl, ykc, yla, yll, ylc, yks, yl, hy, r0, r1, r2, r3, r4⟩ := v_elem hLr2 hlt2 hRk2
            have hst := Lib.hid (fun e : l[k].v = l2[k].v => show (l.map VT.v).take (k + 1) = (l2.map VT.v).take (k + 1) by rw [List.take_succ_eq_append_getElem (by simpa using hlt), List.take_succ_eq_append_getElem (by simpa using hlt2), htk.out, List.getElem_map, List.getElem_map, e])
            have hno := Lib.hid (fun h : l.map VT.v = l2.map VT.v => show l[k].v = l2[k].v by
              have e1 : (l.map VT.v)[k]? = (l2.map VT.v)[k]? := by rw [h]
              rw [List.getElem?_map, List.getElem?_map, List.getElem?_eq_getElem hlt, List.getElem?_eq_getElem hlt2] at e1
              exact Option.some.inj e1)
            obtain ⟨Q, hQ⟩ : ∃ Q : Prop, (l[k].v = l2[k].v) = Q := ⟨_, rfl⟩
            rw [hQ] at hi hst hno
            rw [hx, hy, VT.arg_mk, VT.arg_mk] at hi
            have hxq := Lib.hid hx
            have hyq := Lib.hid hy
            have hLrh := Lib.hid hLr
            have hLr2h := Lib.hid hLr2
            clear hx hy hQ hRk hRk2 hLr hLr2
            by_cases hq : Q
            rotate_left 1
            · have hih := Lib.hid (show Calls Tryz.prog 94 #[.agg #[.int .u8 xk, .int .u64 xn, .string xs, .slice xka xkl xkc, .slice xla xll xlc], .agg #[.int .u8 yk, .int .u64 yn, .string ys, .slice yka ykl ykc, .slice yla yll ylc]] wr.drew (fun e w' => e = .returned (.bool false) ∧ Below wr.drew.heap.size wr.drew w') from hi.mono (by
                rintro e w1 ⟨⟨y, rfl, hyq⟩, hB1⟩
                cases y
                · exact ⟨rfl, hB1⟩
                · exact absurd (hyq.1 rfl) hq))
              have hqn := Lib.hid hq
              clear hi hq
              go_wp2
              go_region_held3 (fun w' => w'.cell? ⟨w.heap.size, 4, none⟩ = some (.slice (some ⟨g, off, none⟩) l.length lc) ∧ w'.cell? ⟨w.heap.size + 1, 4, none⟩ = some (.slice (some ⟨g2, off2, none⟩) l.length xc) ∧ w'.cell? ⟨g, off + k * 5, none⟩ = some (.int .u8 xk) ∧ w'.cell? ⟨g, off + k * 5 + 1, none⟩ = some (.int .u64 xn) ∧ w'.cell? ⟨g, off + k * 5 + 2, none⟩ = some (.string xs) ∧ w'.cell? ⟨g, off + k * 5 + 3, none⟩ = some (.slice xka xkl xkc) ∧ w'.cell? ⟨g, off + k * 5 + 4, none⟩ = some (.slice xla xll xlc) ∧ w'.cell? ⟨g2, off2 + k * 5, none⟩ = some (.int .u8 yk) ∧ w'.cell? ⟨g2, off2 + k * 5 + 1, none⟩ = some (.int .u64 yn) ∧ w'.cell? ⟨g2, off2 + k * 5 + 2, none⟩ = some (.string ys) ∧ w'.cell? ⟨g2, off2 + k * 5 + 3, none⟩ = some (.slice yka ykl ykc) ∧ w'.cell? ⟨g2, off2 + k * 5 + 4, none⟩ = some (.slice yla yll ylc)) (first | exact ⟨c4, d4, q0, q1, q2, q3, q4, r0, r1, r2, r3, r4⟩ | exact ⟨c5, d5, z0, z1, z2, z3, z4, y0, y1, y2, y3, y4⟩) (first | (go_at_call 94; (with_reducible refine hih.out.mono ?_); rintro e w1 ⟨rfl, hB1⟩; have hB2 := (below_dr hB).trans (hB1.mono hB.size); have hBw := (below_dr (Below.refl wr.heap.size wr)).trans hB1; have k1 := b.pure hBw; have k2 := b2.pure hBw; have c5 := k1.at 4 rfl; have d5 := k2.at 4 rfl; have zz := v_cells (hLrh.out.pure hBw) hlt; have yy := v_cells (hLr2h.out.pure hBw) hlt2; rw [hxq.out] at zz; rw [hyq.out] at yy; obtain ⟨z0, z1, z2, z3, z4⟩ := zz; obtain ⟨y0, y1, y2, y3, y4⟩ := yy))
              go_wp2
              go_ret
              exact ⟨⟨false, rfl, ⟨fun h => absurd h (by simp), fun h => absurd (hno.out h.2.2.2.2) hqn.out⟩⟩, hB2⟩
            · have hih := Lib.hid (show Calls Tryz.prog 94 #[.agg #[.int .u8 xk, .int .u64 xn, .string xs, .slice xka xkl xkc, .slice xla xll xlc], .agg #[.int .u8 yk, .int .u64 yn, .string ys, .slice yka ykl ykc, .slice yla yll ylc]] wr.drew (fun e w' => e = .returned (.bool true) ∧ Below wr.drew.heap.size wr.drew w') from hi.mono (by
                rintro e w1 ⟨⟨y, rfl, hyq⟩, hB1⟩
                cases y
                · exact absurd (hyq.2 hq) (by simp)
                · exact ⟨rfl, hB1⟩))
              have hst2 := Lib.hid (hst.out hq)
              clear hi hq
              go_wp2
              go_region_held3 (fun w' => w'.cell? ⟨w.heap.size, 4, none⟩ = some (.slice (some ⟨g, off, none⟩) l.length lc) ∧ w'.cell? ⟨w.heap.size + 1, 4, none⟩ = some (.slice (some ⟨g2, off2, none⟩) l.length xc) ∧ w'.cell? ⟨g, off + k * 5, none⟩ = some (.int .u8 xk) ∧ w'.cell? ⟨g, off + k * 5 + 1, none⟩ = some (.int .u64 xn) ∧ w'.cell? ⟨g, off + k * 5 + 2, none⟩ = some (.string xs) ∧ w'.cell? ⟨g, off + k * 5 + 3, none⟩ = some (.slice xka xkl xkc) ∧ w'.cell? ⟨g, off + k * 5 + 4, none⟩ = some (.slice xla xll xlc) ∧ w'.cell? ⟨g2, off2 + k * 5, none⟩ = some (.int .u8 yk) ∧ w'.cell? ⟨g2, off2 + k * 5 + 1, none⟩ = some (.int .u64 yn) ∧ w'.cell? ⟨g2, off2 + k * 5 + 2, none⟩ = some (.string ys) ∧ w'.cell? ⟨g2, off2 + k * 5 + 3, none⟩ = some (.slice yka ykl ykc) ∧ w'.cell? ⟨g2, off2 + k * 5 + 4, none⟩ = some (.slice yla yll ylc)) (first | exact ⟨c4, d4, q0, q1, q2, q3, q4, r0, r1, r2, r3, r4⟩ | exact ⟨c5, d5, z0, z1, z2, z3, z4, y0, y1, y2, y3, y4⟩) (first | (go_at_call 94; (with_reducible refine hih.out.mono ?_); rintro e w1 ⟨rfl, hB1⟩; have hB2 := (below_dr hB).trans (hB1.mono hB.size); have hBw := (below_dr (Below.refl wr.heap.size wr)).trans hB1; have k1 := b.pure hBw; have k2 := b2.pure hBw; have c5 := k1.at 4 rfl; have d5 := k2.at 4 rfl; have zz := v_cells (hLrh.out.pure hBw) hlt; have yy := v_cells (hLr2h.out.pure hBw) hlt2; rw [hxq.out] at zz; rw [hyq.out] at yy; obtain ⟨z0, z1, z2, z3, z4⟩ := zz; obtain ⟨y0, y1, y2, y3, y4⟩ := yy))
              go_wp2
              go_roundw
              case rel => exact ⟨k + 1, by omega, by go_num, hst2, k1, k2, hB2⟩
              case measure => simp [intOf]; omega
          · obtain rfl : k = l.length := by omega
            have hls := Lib.hid (show l.map VT.v = l2.map VT.v by have h := htk.out; rw [List.take_of_length_le (by simp), List.take_of_length_le (by simp; rw [hll.out]; exact Nat.le_refl _)] at h; exact h)
            go_wp2
            go_ret
            exact ⟨⟨true, rfl, ⟨fun _ => ⟨trivial, trivial, trivial, hks.out, hls.out⟩, fun _ => rfl⟩⟩, hB⟩
end Go.Proofs.YtflglpbjapgciaaGreatDoor

namespace Go.Proofs.YtflglpbjapgciaaGreatDoor
set_option linter.unusedSimpArgs false
set_option linter.unusedVariables false
open Go.RowKit
set_option maxRecDepth 100000 in
set_option maxHeartbeats 1600000 in
theorem sequal_any (w : World) (ka va : Option Addr) (kc vc : Nat) (ks ks2 : List ByteArray) (hK : Slc strEnc 1 w (.slice ka ks.length kc) ks) (hK2 : Slc strEnc 1 w (.slice va ks2.length vc) ks2) (hmk : (ks.length : Int) ≤ 9223372036854775807) :
    Calls Tryz.prog 107 #[.slice ka ks.length kc, .slice va ks2.length vc] w fun e w' => e = .returned (.bool (decide (ks = ks2))) ∧ Below w.heap.size w w' := by
  by_cases e : ks2.length = ks.length
  rotate_left 1
  · have h1 : ¬ (ks.length : Int) = (ks2.length : Int) := by omega
    have h2 : ((ks.length : Int) != (ks2.length : Int)) = true := bne_iff_ne.2 h1
    have hno : decide (ks = ks2) = false := decide_eq_false (fun h => e (by rw [h]))
    rw [hno]
    clear e hno
    go_enter Tryz.func107, Tryz.ntmps107
    go_wp2
    go_ret
    exact ⟨rfl, Below.refl _ _⟩
  rw [e] at hK2 ⊢
  have hkl := Lib.hid e
  clear e
  go_enter Tryz.func107, Tryz.ntmps107
  go_wp2
  go_loopw [13] (fun s5 wr => ∃ (k : Nat), k ≤ ks.length ∧ s5 = .int .i64 k ∧ Hid (ks.take k = ks2.take k) ∧ Below w.heap.size w wr) (fun s5 _ => ks.length - (intOf s5).toNat)
  case atStart => exact ⟨0, by omega, rfl, Lib.hid (by simp), Below.refl _ _⟩
  case round =>
    obtain ⟨k, hk, rfl, htk, hB⟩ := hrel
    by_cases hlt : k < ks.length
    · have h1 : (k : Int) < (ks.length : Int) := by omega
      have hlt2 : k < ks2.length := by rw [hkl.out]; exact hlt
      have hKr := hK.pure hB
      have hKr2 := hK2.pure hB
      rw [← hkl.out] at hKr2
      obtain ⟨kg, koff, rfl⟩ := hKr.addrB hlt
      obtain ⟨vg, voff, rfl⟩ := hKr2.addrB hlt2
      have kq := hKr.get k hlt 0 _ rfl
      have vq := hKr2.get k hlt2 0 _ rfl
      rw [Nat.mul_one, Nat.add_zero] at kq vq
      obtain ⟨kx, hkx⟩ : ∃ kx, ks[k] = kx := ⟨_, rfl⟩
      obtain ⟨vx, hvx⟩ : ∃ vx, ks2[k] = vx := ⟨_, rfl⟩
      rw [hkx] at kq
      rw [hvx] at vq
      by_cases e : kx = vx
      rotate_left 1
      · have h2 : ¬ kx.toList = vx.toList := ba_toList_ne e
        have h3 : (!kx.toList == vx.toList) = true := by rw [beq_eq_false_iff_ne.2 h2]; rfl
        have hno := Lib.hid (show decide (ks = ks2) = false from decide_eq_false (fun h => e (by rw [← hkx, ← hvx]; simp [h])))
        clear e hkx hvx hKr hKr2
        go_wp2
        go_region
        go_wp2
        go_ret
        exact ⟨by rw [hno.out]; rfl, below_dr hB⟩
      · subst e
        have h3 : (!kx.toList == kx.toList) = false := by simp
        have hst := Lib.hid (show ks.take (k + 1) = ks2.take (k + 1) by rw [List.take_succ_eq_append_getElem hlt, List.take_succ_eq_append_getElem hlt2, htk.out, hkx, hvx])
        clear hkx hvx hKr hKr2
        go_wp2
        go_region
        go_wp2
        go_roundw
        case rel => exact ⟨k + 1, by omega, by go_num, hst, below_dr hB⟩
        case measure => simp [intOf]; omega
    · obtain rfl : k = ks.length := by omega
      have hks := Lib.hid (show decide (ks = ks2) = true from decide_eq_true (by have h := htk.out; rw [List.take_length, List.take_of_length_le (by rw [hkl.out]; exact Nat.le_refl _)] at h; exact h))
      go_wp2
      go_ret
      exact ⟨by rw [hks.out]; rfl, hB⟩
end Go.Proofs.YtflglpbjapgciaaGreatDoor

namespace Go.Proofs.YtflglpbjapgciaaGreatDoor
set_option linter.unusedSimpArgs false
set_option linter.unusedVariables false
open Go.RowKit
set_option maxRecDepth 100000 in
set_option maxHeartbeats 1600000 in
theorem eqfunc_any (w : World) (la xa : Option Addr) (lc xc : Nat) (l l2 : List VT) (P P2 : Nat → Prop) (hL : Slc vEnc 5 w (.slice la l.length lc) l) (hL2 : Slc vEnc 5 w (.slice xa l2.length xc) l2) (hml : (l.length : Int) ≤ 9223372036854775807)
    (hsubh : Hid (∀ x ∈ l, Rd P w x)) (hsub2h : Hid (∀ x ∈ l2, Rd P2 w x))
    (ihh : Hid (∀ x ∈ l, ∀ (u : VT) (P P2 : Nat → Prop) (w : World), Rd P w x → Rd P2 w u → Calls Tryz.prog 90 #[x.arg, u.arg] w fun e w' => (∃ b : Bool, e = .returned (.bool b) ∧ (b = true ↔ x.v = u.v)) ∧ Below w.heap.size w w')) :
    Calls Tryz.prog 108 #[.slice la l.length lc, .slice xa l2.length xc, .func (.func 90) #[] #[]] w fun e w' => (∃ b : Bool, e = .returned (.bool b) ∧ (b = true ↔ l.map VT.v = l2.map VT.v)) ∧ Below w.heap.size w w' := by
  by_cases e : l2.length = l.length
  rotate_left 1
  · have h1 : ¬ (l.length : Int) = (l2.length : Int) := by omega
    have h2 : ((l.length : Int) != (l2.length : Int)) = true := bne_iff_ne.2 h1
    have hno := Lib.hid (fun h : l.map VT.v = l2.map VT.v => e (by have := congrArg List.length h; simpa using this.symm))
    clear e
    go_enter Tryz.func108, Tryz.ntmps108
    go_wp2
    go_ret
    exact ⟨⟨false, rfl, ⟨fun h => absurd h (by simp), fun h => absurd h hno.out⟩⟩, Below.refl _ _⟩
  rw [e] at hL2 ⊢
  have hll := Lib.hid e
  clear e
  go_enter Tryz.func108, Tryz.ntmps108
  go_wp2
  go_loopw [17] (fun s5 wr => ∃ (k : Nat), k ≤ l.length ∧ s5 = .int .i64 k ∧ Hid ((l.map VT.v).take k = (l2.map VT.v).take k) ∧ Below w.heap.size w wr) (fun s5 _ => l.length - (intOf s5).toNat)
  case atStart => exact ⟨0, by omega, rfl, Lib.hid (by simp), Below.refl _ _⟩
  case round =>
    obtain ⟨k, hk, rfl, htk, hB⟩ := hrel
    by_cases hlt : k < l.length
    · have h1 : (k : Int) < (l.length : Int) := by omega
      have hlt2 : k < l2.length := by rw [hll.out]; exact hlt
      have hLr := hL.pure hB
      have hLr2 := hL2.pure hB
      rw [← hll.out] at hLr2
      obtain ⟨g, off, rfl⟩ := hLr.addrB hlt
      obtain ⟨g2, off2, rfl⟩ := hLr2.addrB hlt2
      have hRk := (hsubh.out l[k] (List.getElem_mem hlt)).pure hB
      have hRk2 := (hsub2h.out l2[k] (List.getElem_mem hlt2)).pure hB
      have hi0 := fun (u : World) (hu : Below w.heap.size w u) => ihh.out l[k] (List.getElem_mem hlt) l2[k] P P2 u ((hsubh.out l[k] (List.getElem_mem hlt)).pure hu) ((hsub2h.out l2[k] (List.getElem_mem hlt2)).pure hu)
      obtain ⟨xk, xn, xs, xka, xkl, xkc, xla, xll, xlc, xks, xl, hx, q0, q1, q2, q3, q4⟩ := v_elem hLr hlt hRk
      obtain ⟨yk, yn, ys, yka, ykl, ykc, yla, yll, ylc, yks, yl, hy, r0, r1, r2, r3, r4⟩ := v_elem hLr2 hlt2 hRk2
      have hst := Lib.hid (fun e : l[k].v = l2[k].v => show (l.map VT.v).take (k + 1) = (l2.map VT.v).take (k + 1) by rw [List.take_succ_eq_append_getElem (by simpa using hlt), List.take_succ_eq_append_getElem (by simpa using hlt2), htk.out, List.getElem_map, List.getElem_map, e])
      have hno := Lib.hid (fun h : l.map VT.v = l2.map VT.v => show l[k].v = l2[k].v by
        have e1 : (l.map VT.v)[k]? = (l2.map VT.v)[k]? := by rw [h]
        rw [List.getElem?_map, List.getElem?_map, List.getElem?_eq_getElem hlt, List.getElem?_eq_getElem hlt2] at e1
        exact Option.some.inj e1)
      obtain ⟨Q, hQ⟩ : ∃ Q : Prop, (l[k].v = l2[k].v) = Q := ⟨_, rfl⟩
      rw [hQ] at hi0 hst hno
      rw [hx, hy, VT.arg_mk, VT.arg_mk] at hi0
      have rr := v_cells (hLr2.pure ((Below.refl wr.heap.size wr).alloc (Nat.le_refl _) (.cells #[.int .u8 xk, .int .u64 xn, .string xs, .slice xka xkl xkc, .slice xla xll xlc] 60))) hlt2
      rw [hy] at rr
      have rr2 : (wr.alloc (.cells #[.int .u8 xk, .int .u64 xn, .string xs, .slice xka xkl xkc, .slice xla xll xlc] 60)).cell? ⟨g2, off2 + k * 5, none⟩ = some (.int .u8 yk) ∧ (wr.alloc (.cells #[.int .u8 xk, .int .u64 xn, .string xs, .slice xka xkl xkc, .slice xla xll xlc] 60)).cell? ⟨g2, off2 + k * 5 + 1, none⟩ = some (.int .u64 yn) ∧ (wr.alloc (.cells #[.int .u8 xk, .int .u64 xn, .string xs, .slice xka xkl xkc, .slice xla xll xlc] 60)).cell? ⟨g2, off2 + k * 5 + 2, none⟩ = some (.string ys) ∧ (wr.alloc (.cells #[.int .u8 xk, .int .u64 xn, .string xs, .slice xka xkl xkc, .slice xla xll xlc] 60)).cell? ⟨g2, off2 + k * 5 + 3, none⟩ = some (.slice yka ykl ykc) ∧ (wr.alloc (.cells #[.int .u8 xk, .int .u64 xn, .string xs, .slice xka xkl xkc, .slice xla xll xlc] 60)).cell? ⟨g2, off2 + k * 5 + 4, none⟩ = some (.slice yla yll ylc) := rr
      clear rr
      obtain ⟨s0, s1, s2, s3, s4⟩ := rr2
      clear hx hy hQ hRk hRk2 hLr hLr2
      have hBb1 := hB.alloc hB.size (.cells #[.int .u8 xk, .int .u64 xn, .string xs, .slice xka xkl xkc, .slice xla xll xlc] 60)
      have hBb2 := hBb1.alloc hBb1.size (.cells #[.int .u8 yk, .int .u64 yn, .string ys, .slice yka ykl ykc, .slice yla yll ylc] 60)
      have hi := hi0 _ hBb2
      clear hi0
      have bx := (Blk.new wr [.int .u8 xk, .int .u64 xn, .string xs, .slice xka xkl xkc, .slice xla xll xlc] 60).alloc (.cells #[.int .u8 yk, .int .u64 yn, .string ys, .slice yka ykl ykc, .slice yla yll ylc] 60)
      have by_ := Blk.new (wr.alloc (.cells #[.int .u8 xk, .int .u64 xn, .string xs, .slice xka xkl xkc, .slice xla xll xlc] 60)) [.int .u8 yk, .int .u64 yn, .string ys, .slice yka ykl ykc, .slice yla yll ylc] 60
      rw [show (wr.alloc (.cells #[.int .u8 xk, .int .u64 xn, .string xs, .slice xka xkl xkc, .slice xla xll xlc] 60)).heap.size = wr.heap.size + 1 by simp] at by_
      have c0 := bx.at 0 rfl; have c1 := bx.at 1 rfl; have c2 := bx.at 2 rfl; have c3 := bx.at 3 rfl; have c4 := bx.at 4 rfl
      have d0 := by_.at 0 rfl; have d1 := by_.at 1 rfl; have d2 := by_.at 2 rfl; have d3 := by_.at 3 rfl; have d4 := by_.at 4 rfl
      by_cases hq : Q
      rotate_left 1
      · have hih := Lib.hid (show Calls Tryz.prog 90 #[.agg #[.int .u8 xk, .int .u64 xn, .string xs, .slice xka xkl xkc, .slice xla xll xlc], .agg #[.int .u8 yk, .int .u64 yn, .string ys, .slice yka ykl ykc, .slice yla yll ylc]] ((wr.alloc (.cells #[.int .u8 xk, .int .u64 xn, .string xs, .slice xka xkl xkc, .slice xla xll xlc] 60)).alloc (.cells #[.int .u8 yk, .int .u64 yn, .string ys, .slice yka ykl ykc, .slice yla yll ylc] 60)) (fun e w' => e = .returned (.bool false) ∧ Below ((wr.alloc (.cells #[.int .u8 xk, .int .u64 xn, .string xs, .slice xka xkl xkc, .slice xla xll xlc] 60)).alloc (.cells #[.int .u8 yk, .int .u64 yn, .string ys, .slice yka ykl ykc, .slice yla yll ylc] 60)).heap.size ((wr.alloc (.cells #[.int .u8 xk, .int .u64 xn, .string xs, .slice xka xkl xkc, .slice xla xll xlc] 60)).alloc (.cells #[.int .u8 yk, .int .u64 yn, .string ys, .slice yka ykl ykc, .slice yla yll ylc] 60)) w') from hi.mono (by
          rintro e w1 ⟨⟨y, rfl, hyq⟩, hB1⟩
          cases y
          · exact ⟨rfl, hB1⟩
          · exact absurd (hyq.1 rfl) hq))
        have hqn := Lib.hid hq
        clear hi hq
        go_wp2_with (first | (go_at_call 90; (with_reducible refine hih.out.mono ?_); rintro e w1 ⟨rfl, hB1⟩; have hB2 := hBb2.trans (hB1.mono hBb2.size)))
        go_ret
        exact ⟨⟨false, rfl, ⟨fun h => absurd h (by simp), fun h => absurd (hno.out h) hqn.out⟩⟩, hB2⟩
      · have hih := Lib.hid (show Calls Tryz.prog 90 #[.agg #[.int .u8 xk, .int .u64 xn, .string xs, .slice xka xkl xkc, .slice xla xll xlc], .agg #[.int .u8 yk, .int .u64 yn, .string ys, .slice yka ykl ykc, .slice yla yll ylc]] ((wr.alloc (.cells #[.int .u8 xk, .int .u64 xn, .string xs, .slice xka xkl xkc, .slice xla xll xlc] 60)).alloc (.cells #[.int .u8 yk, .int .u64 yn, .string ys, .slice yka ykl ykc, .slice yla yll ylc] 60)) (fun e w' => e = .returned (.bool true) ∧ Below ((wr.alloc (.cells #[.int .u8 xk, .int .u64 xn, .string xs, .slice xka xkl xkc, .slice xla xll xlc] 60)).alloc (.cells #[.int .u8 yk, .int .u64 yn, .string ys, .slice yka ykl ykc, .slice yla yll ylc] 60)).heap.size ((wr.alloc (.cells #[.int .u8 xk, .int .u64 xn, .string xs, .slice xka xkl xkc, .slice xla xll xlc] 60)).alloc (.cells #[.int .u8 yk, .int .u64 yn, .string ys, .slice yka ykl ykc, .slice yla yll ylc] 60)) w') from hi.mono (by
          rintro e w1 ⟨⟨y, rfl, hyq⟩, hB1⟩
          cases y
          · exact absurd (hyq.2 hq) (by simp)
          · exact ⟨rfl, hB1⟩))
        have hst2 := Lib.hid (hst.out hq)
        clear hi hq
        go_wp2_with (first | (go_at_call 90; (with_reducible refine hih.out.mono ?_); rintro e w1 ⟨rfl, hB1⟩; have hB2 := hBb2.trans (hB1.mono hBb2.size)))
        go_roundw
        case rel => exact ⟨k + 1, by omega, by go_num, hst2, hB2⟩
        case measure => simp [intOf]; omega
    · obtain rfl : k = l.length := by omega
      have hls := Lib.hid (show l.map VT.v = l2.map VT.v by have h := htk.out; rw [List.take_of_length_le (by simp), List.take_of_length_le (by simp; rw [hll.out]; exact Nat.le_refl _)] at h; exact h)
      go_wp2
      go_ret
      exact ⟨⟨true, rfl, ⟨fun _ => hls.out, fun _ => rfl⟩⟩, hB⟩
end Go.Proofs.YtflglpbjapgciaaGreatDoor

namespace Go.Proofs.YtflglpbjapgciaaGreatDoor
set_option linter.unusedSimpArgs false
set_option linter.unusedVariables false
open Go.RowKit
set_option maxRecDepth 100000 in
set_option maxHeartbeats 3200000 in
theorem psame_any (t : VT) : ∀ (u : VT) (P P2 : Nat → Prop) (w : World), Rd P w t → Rd P2 w u → Calls Tryz.prog 90 #[t.arg, u.arg] w fun e w' => (∃ b : Bool, e = .returned (.bool b) ∧ (b = true ↔ t.v = u.v)) ∧ Below w.heap.size w w' := by
  induction t using VT.ind with
  | h t ih =>
    intro u P P2 w hR hR2
    have hsub : ∀ x ∈ t.l, Rd P w x := hR.sub
    have hsub2 : ∀ x ∈ u.l, Rd P2 w x := hR2.sub
    obtain ⟨tk, tn, ts, ka, kc, la, lc, ks, l, rfl, hK, hL, hmk, hml⟩ := hR.open
    obtain ⟨uk, un, us, va, vc, xa, xc, ks2, l2, rfl, hK2, hL2, hmk2, hml2⟩ := hR2.open
    simp only [VT.arg_mk, v_same]
    have ih' : ∀ x ∈ l, ∀ (u : VT) (P P2 : Nat → Prop) (w : World), Rd P w x → Rd P2 w u → Calls Tryz.prog 90 #[x.arg, u.arg] w fun e w' => (∃ b : Bool, e = .returned (.bool b) ∧ (b = true ↔ x.v = u.v)) ∧ Below w.heap.size w w' := ih
    have hsub' : ∀ x ∈ l, Rd P w x := hsub
    have hsub2' : ∀ x ∈ l2, Rd P2 w x := hsub2
    have hkeys := Lib.hid (fun (u : World) (hu : Below w.heap.size w u) => sequal_any u ka va kc vc ks ks2 (hK.pure hu) (hK2.pure hu) hmk)
    have hlist := Lib.hid (fun (u : World) (hu : Below w.heap.size w u) => eqfunc_any u la xa lc xc l l2 P P2 (hL.pure hu) (hL2.pure hu) hml (Lib.hid fun x hx => (hsub' x hx).pure hu) (Lib.hid fun x hx => (hsub2' x hx).pure hu) (Lib.hid ih'))
    clear ih ih' hR hR2 hsub hsub2 hsub' hsub2' hmk hml hmk2 hml2 hK hK2 hL hL2
    by_cases e : tk = uk
    rotate_left 1
    · have h1 : (tk == uk) = false := beq_eq_false_iff_ne.2 e
      have hno := Lib.hid (e)
      clear e
      have hB0 := ((Below.refl w.heap.size w).alloc (Nat.le_refl _) (.cells #[.int .u8 tk, .int .u64 tn, .string ts, .slice ka ks.length kc, .slice la l.length lc] 60))
      have hB1 := hB0.alloc hB0.size (.cells #[.int .u8 uk, .int .u64 un, .string us, .slice va ks2.length vc, .slice xa l2.length xc] 60)
      have b0 := (Blk.new w [.int .u8 tk, .int .u64 tn, .string ts, .slice ka ks.length kc, .slice la l.length lc] 60).alloc (.cells #[.int .u8 uk, .int .u64 un, .string us, .slice va ks2.length vc, .slice xa l2.length xc] 60)
      have b1 := Blk.new (w.alloc (.cells #[.int .u8 tk, .int .u64 tn, .string ts, .slice ka ks.length kc, .slice la l.length lc] 60)) [.int .u8 uk, .int .u64 un, .string us, .slice va ks2.length vc, .slice xa l2.length xc] 60
      rw [show (w.alloc (.cells #[.int .u8 tk, .int .u64 tn, .string ts, .slice ka ks.length kc, .slice la l.length lc] 60)).heap.size = w.heap.size + 1 by simp] at b1
      have c0 := b0.at 0 rfl; have c1 := b0.at 1 rfl; have c2 := b0.at 2 rfl; have c3 := b0.at 3 rfl; have c4 := b0.at 4 rfl
      have d0 := b1.at 0 rfl; have d1 := b1.at 1 rfl; have d2 := b1.at 2 rfl; have d3 := b1.at 3 rfl; have d4 := b1.at 4 rfl
      go_enter Tryz.func90, Tryz.ntmps90
      go_wp2
      go_ret
      exact ⟨⟨false, rfl, ⟨fun h => absurd h (by simp), fun h => absurd h.1 hno.out⟩⟩, hB1⟩
    subst e
    by_cases e : tn = un
    rotate_left 1
    · have h1 : (tn == un) = false := beq_eq_false_iff_ne.2 e
      have hno := Lib.hid (e)
      clear e
      have hB0 := ((Below.refl w.heap.size w).alloc (Nat.le_refl _) (.cells #[.int .u8 tk, .int .u64 tn, .string ts, .slice ka ks.length kc, .slice la l.length lc] 60))
      have hB1 := hB0.alloc hB0.size (.cells #[.int .u8 tk, .int .u64 un, .string us, .slice va ks2.length vc, .slice xa l2.length xc] 60)
      have b0 := (Blk.new w [.int .u8 tk, .int .u64 tn, .string ts, .slice ka ks.length kc, .slice la l.length lc] 60).alloc (.cells #[.int .u8 tk, .int .u64 un, .string us, .slice va ks2.length vc, .slice xa l2.length xc] 60)
      have b1 := Blk.new (w.alloc (.cells #[.int .u8 tk, .int .u64 tn, .string ts, .slice ka ks.length kc, .slice la l.length lc] 60)) [.int .u8 tk, .int .u64 un, .string us, .slice va ks2.length vc, .slice xa l2.length xc] 60
      rw [show (w.alloc (.cells #[.int .u8 tk, .int .u64 tn, .string ts, .slice ka ks.length kc, .slice la l.length lc] 60)).heap.size = w.heap.size + 1 by simp] at b1
      have c0 := b0.at 0 rfl; have c1 := b0.at 1 rfl; have c2 := b0.at 2 rfl; have c3 := b0.at 3 rfl; have c4 := b0.at 4 rfl
      have d0 := b1.at 0 rfl; have d1 := b1.at 1 rfl; have d2 := b1.at 2 rfl; have d3 := b1.at 3 rfl; have d4 := b1.at 4 rfl
      go_enter Tryz.func90, Tryz.ntmps90
      go_wp2
      go_ret
      exact ⟨⟨false, rfl, ⟨fun h => absurd h (by simp), fun h => absurd h.2.1 hno.out⟩⟩, hB1⟩
    subst e
    by_cases e : ts = us
    rotate_left 1
    · have h1 : ¬ ts.toList = us.toList := ba_toList_ne e
      have h2 : (ts.toList == us.toList) = false := beq_eq_false_iff_ne.2 h1
      have hno := Lib.hid (e)
      clear e
      have hB0 := ((Below.refl w.heap.size w).alloc (Nat.le_refl _) (.cells #[.int .u8 tk, .int .u64 tn, .string ts, .slice ka ks.length kc, .slice la l.length lc] 60))
      have hB1 := hB0.alloc hB0.size (.cells #[.int .u8 tk, .int .u64 tn, .string us, .slice va ks2.length vc, .slice xa l2.length xc] 60)
      have b0 := (Blk.new w [.int .u8 tk, .int .u64 tn, .string ts, .slice ka ks.length kc, .slice la l.length lc] 60).alloc (.cells #[.int .u8 tk, .int .u64 tn, .string us, .slice va ks2.length vc, .slice xa l2.length xc] 60)
      have b1 := Blk.new (w.alloc (.cells #[.int .u8 tk, .int .u64 tn, .string ts, .slice ka ks.length kc, .slice la l.length lc] 60)) [.int .u8 tk, .int .u64 tn, .string us, .slice va ks2.length vc, .slice xa l2.length xc] 60
      rw [show (w.alloc (.cells #[.int .u8 tk, .int .u64 tn, .string ts, .slice ka ks.length kc, .slice la l.length lc] 60)).heap.size = w.heap.size + 1 by simp] at b1
      have c0 := b0.at 0 rfl; have c1 := b0.at 1 rfl; have c2 := b0.at 2 rfl; have c3 := b0.at 3 rfl; have c4 := b0.at 4 rfl
      have d0 := b1.at 0 rfl; have d1 := b1.at 1 rfl; have d2 := b1.at 2 rfl; have d3 := b1.at 3 rfl; have d4 := b1.at 4 rfl
      go_enter Tryz.func90, Tryz.ntmps90
      go_wp2
      go_ret
      exact ⟨⟨false, rfl, ⟨fun h => absurd h (by simp), fun h => absurd h.2.2.1 hno.out⟩⟩, hB1⟩
    subst e
    by_cases e : ks = ks2
    rotate_left 1
    · have hdk : decide (ks = ks2) = false := decide_eq_false e
      have hno := Lib.hid e
      clear e
      have hB0 := ((Below.refl w.heap.size w).alloc (Nat.le_refl _) (.cells #[.int .u8 tk, .int .u64 tn, .string ts, .slice ka ks.length kc, .slice la l.length lc] 60))
      have hB1 := hB0.alloc hB0.size (.cells #[.int .u8 tk, .int .u64 tn, .string ts, .slice va ks2.length vc, .slice xa l2.length xc] 60)
      have b0 := (Blk.new w [.int .u8 tk, .int .u64 tn, .string ts, .slice ka ks.length kc, .slice la l.length lc] 60).alloc (.cells #[.int .u8 tk, .int .u64 tn, .string ts, .slice va ks2.length vc, .slice xa l2.length xc] 60)
      have b1 := Blk.new (w.alloc (.cells #[.int .u8 tk, .int .u64 tn, .string ts, .slice ka ks.length kc, .slice la l.length lc] 60)) [.int .u8 tk, .int .u64 tn, .string ts, .slice va ks2.length vc, .slice xa l2.length xc] 60
      rw [show (w.alloc (.cells #[.int .u8 tk, .int .u64 tn, .string ts, .slice ka ks.length kc, .slice la l.length lc] 60)).heap.size = w.heap.size + 1 by simp] at b1
      have c0 := b0.at 0 rfl; have c1 := b0.at 1 rfl; have c2 := b0.at 2 rfl; have c3 := b0.at 3 rfl; have c4 := b0.at 4 rfl
      have d0 := b1.at 0 rfl; have d1 := b1.at 1 rfl; have d2 := b1.at 2 rfl; have d3 := b1.at 3 rfl; have d4 := b1.at 4 rfl
      go_enter Tryz.func90, Tryz.ntmps90
      go_wp2_with (first | (go_at_call 107; (with_reducible refine (hkeys.out _ hB1).mono ?_); rintro e w1 ⟨rfl, hBk⟩; have hB2 := hB1.trans (hBk.mono hB1.size); have k1 := b0.below hBk (by simp <;> omega); have k2 := b1.below hBk (by simp <;> omega); have c4 := k1.at 4 rfl; have d4 := k2.at 4 rfl; rw [hdk]))
      go_ret
      exact ⟨⟨false, rfl, ⟨fun h => absurd h (by simp), fun h => absurd h.2.2.2.1 hno.out⟩⟩, hB2⟩
    have hdk : decide (ks = ks2) = true := decide_eq_true e
    have hks := Lib.hid e
    clear e
    have hB0 := ((Below.refl w.heap.size w).alloc (Nat.le_refl _) (.cells #[.int .u8 tk, .int .u64 tn, .string ts, .slice ka ks.length kc, .slice la l.length lc] 60))
    have hB1 := hB0.alloc hB0.size (.cells #[.int .u8 tk, .int .u64 tn, .string ts, .slice va ks2.length vc, .slice xa l2.length xc] 60)
    have b0 := (Blk.new w [.int .u8 tk, .int .u64 tn, .string ts, .slice ka ks.length kc, .slice la l.length lc] 60).alloc (.cells #[.int .u8 tk, .int .u64 tn, .string ts, .slice va ks2.length vc, .slice xa l2.length xc] 60)
    have b1 := Blk.new (w.alloc (.cells #[.int .u8 tk, .int .u64 tn, .string ts, .slice ka ks.length kc, .slice la l.length lc] 60)) [.int .u8 tk, .int .u64 tn, .string ts, .slice va ks2.length vc, .slice xa l2.length xc] 60
    rw [show (w.alloc (.cells #[.int .u8 tk, .int .u64 tn, .string ts, .slice ka ks.length kc, .slice la l.length lc] 60)).heap.size = w.heap.size + 1 by simp] at b1
    have c0 := b0.at 0 rfl; have c1 := b0.at 1 rfl; have c2 := b0.at 2 rfl; have c3 := b0.at 3 rfl; have c4 := b0.at 4 rfl
    have d0 := b1.at 0 rfl; have d1 := b1.at 1 rfl; have d2 := b1.at 2 rfl; have d3 := b1.at 3 rfl; have d4 := b1.at 4 rfl
    go_enter Tryz.func90, Tryz.ntmps90
    go_wp2_with (first | (go_at_call 107; (with_reducible refine (hkeys.out _ hB1).mono ?_); rintro e w1 ⟨rfl, hBk⟩; have hB2 := hB1.trans (hBk.mono hB1.size); have k1 := b0.below hBk (by simp <;> omega); have k2 := b1.below hBk (by simp <;> omega); have c4 := k1.at 4 rfl; have d4 := k2.at 4 rfl; rw [hdk]) | (go_at_call 108; (with_reducible refine (hlist.out _ hB2).mono ?_); rintro e w2 ⟨⟨b, rfl, hbq⟩, hBl⟩; have hB3 := hB2.trans (hBl.mono hB2.size)))
    go_ret
    exact ⟨⟨b, rfl, ⟨fun h => ⟨trivial, trivial, trivial, hks.out, hbq.1 h⟩, fun h => hbq.2 h.2.2.2.2⟩⟩, hB3⟩
end Go.Proofs.YtflglpbjapgciaaGreatDoor
