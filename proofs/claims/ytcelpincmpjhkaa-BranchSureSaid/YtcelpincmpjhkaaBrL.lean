/- Package branch: 'on' where the closure is called. Conditions: the table is right; what the closure does is given. Written by gen_brL.py. -/
import Derived.Test.YtcelpincmpjhkaaBrK
namespace Go.Proofs.Ytcelpincmpjhkaa
open Go.RowKit
set_option linter.unusedVariables false

/-- What a closure of 'on' finds. -/
structure DoPre (s : Nat) (w : World) (tb : Nat) (rv av : Value) (R : List Brn) (A : List Asc) : Prop where
  room : s + 5 ≤ w.heap.size
  tab : Blk w tb [rv, av]
  high : s + 5 ≤ tb
  rows : Own (s + 5) 44 7 brEnc w rv R
  ascs : Own (s + 5) 57 5 ascEnc w av A
  rt : rv.ownBlock ≠ some tb
  at_ : av.ownBlock ≠ some tb
  apart : ∀ k, rv.ownBlock = some k → av.ownBlock ≠ some k
/-- What a closure of 'on' leaves. -/
def DoPost (s tb : Nat) (D : Res) (X : Nat → Prop) (Q : World → Prop) (w : World) (e : Ending) (w2 : World) : Prop :=
  (∃ rv av, D.2.2.2 = 0 ∧ e = .returned (.int .u8 D.2.2.1) ∧ Blk w2 tb [rv, av] ∧ Own (s + 5) 44 7 brEnc w2 rv D.1 ∧ Own (s + 5) 57 5 ascEnc w2 av D.2.1 ∧ Upd (fun k => X k ∨ s + 5 ≤ k) w w2 ∧ Q w2) ∨
  ∃ c, c ≠ 0 ∧ D = errR c ∧ e = .panicked [pent c false] ∧ Upd (fun k => X k ∨ s + 5 ≤ k) w w2
theorem own_len2 {α : Type} {enc : α → List Value} {m base : Nat} {e : TypeId} {w : World} {v : Value} {L : List α} (h : Own base e m enc w v L) : ∃ a c, v = .slice a L.length c := own_len h

set_option maxRecDepth 100000 in
set_option maxHeartbeats 6400000 in
theorem on_ok (w : World) (rv av : Value) (R : List Brn) (A : List Asc) (x : Xid) (F : Nat) (caps : Array Value) (D : Res) (X : Nat → Prop) (Q : World → Prop) (hR : Slc brEnc 7 w rv R) (hA : Slc ascEnc 5 w av A) (hLR : R.length ≤ 1000000) (hLA : A.length ≤ 1000000) (hTab : TabOk R A) (hXid : XidOk x)
    (hX : ∀ k, X k → k < w.heap.size) (hQ : ∀ u u', Q u → Upd (fun k => w.heap.size + 2 ≤ k ∧ k < w.heap.size + 5) u u' → Q u')
    (hF : ∀ (args : Array Value) (u : World), (callFunc F args).run Try.prog u = .ok (.enter F args) u)
    (hdo : ∀ w1 tb rv1 av1, Below w.heap.size w w1 → DoPre w.heap.size w1 tb rv1 av1 R A → Calls Try.prog F (#[.pointer (some ⟨tb, 0, none⟩)] ++ caps) w1 (DoPost w.heap.size tb D X Q w1)) :
    Calls Try.prog 47 #[.agg #[rv, av], .bool true, .agg #[.int .u32 x.1, .string x.2.1, .string x.2.2], .func (.func F) #[] caps] w fun e w' => ∃ rv' av', e = .returned (.tuple #[.agg #[rv', av'], .int .u8 D.2.2.1, .int .i64 D.2.2.2]) ∧ Own w.heap.size 44 7 brEnc w' rv' D.1 ∧ Own w.heap.size 57 5 ascEnc w' av' D.2.1 ∧ Upd (fun k => X k ∨ w.heap.size ≤ k) w w' ∧ (D.2.2.2 = 0 → Q w') := by
  have hmf : ∀ (fn : Fn) (first cap : Array Value) (w : World), (Instr.makeFunc fn first cap).run Try.prog w = .ok (.func fn first cap) w := fun _ _ _ _ => rfl
  obtain ⟨ra, rc, rfl, hm1⟩ := hR.len
  obtain ⟨aa, ac, rfl, hm2⟩ := hA.len
  obtain ⟨xf, xg, xb⟩ := x
  simp only at *
  have hB5 : Below w.heap.size w (((((w.alloc (.cells #[.slice ra R.length rc, .slice aa A.length ac] 25)).alloc (.cells #[.int .u32 xf, .string xg, .string xb] 28)).alloc (.cells #[.slice none 0 0, .slice none 0 0] 25)).alloc (.cells #[.int .u8 0] 35)).alloc (.cells #[.int .i64 0] 36)) := ((((((Below.refl _ _).alloc (Nat.le_refl _) _).alloc (by simp) _).alloc (by simp; omega) _).alloc (by simp; omega) _).alloc (by simp; omega) _)
  have t5 : Blk (((((w.alloc (.cells #[.slice ra R.length rc, .slice aa A.length ac] 25)).alloc (.cells #[.int .u32 xf, .string xg, .string xb] 28)).alloc (.cells #[.slice none 0 0, .slice none 0 0] 25)).alloc (.cells #[.int .u8 0] 35)).alloc (.cells #[.int .i64 0] 36)) (w.heap.size) [.slice ra R.length rc, .slice aa A.length ac] := (((((Blk.newAt w [.slice ra R.length rc, .slice aa A.length ac] 25 (w.heap.size) (by simp)).alloc (.cells #[.int .u32 xf, .string xg, .string xb] 28)).alloc (.cells #[.slice none 0 0, .slice none 0 0] 25)).alloc (.cells #[.int .u8 0] 35)).alloc (.cells #[.int .i64 0] 36))
  have z5 : Blk (((((w.alloc (.cells #[.slice ra R.length rc, .slice aa A.length ac] 25)).alloc (.cells #[.int .u32 xf, .string xg, .string xb] 28)).alloc (.cells #[.slice none 0 0, .slice none 0 0] 25)).alloc (.cells #[.int .u8 0] 35)).alloc (.cells #[.int .i64 0] 36)) (w.heap.size + 1) [.int .u32 xf, .string xg, .string xb] := ((((Blk.newAt (w.alloc (.cells #[.slice ra R.length rc, .slice aa A.length ac] 25)) [.int .u32 xf, .string xg, .string xb] 28 (w.heap.size + 1) (by simp)).alloc (.cells #[.slice none 0 0, .slice none 0 0] 25)).alloc (.cells #[.int .u8 0] 35)).alloc (.cells #[.int .i64 0] 36))
  have p5 : Blk (((((w.alloc (.cells #[.slice ra R.length rc, .slice aa A.length ac] 25)).alloc (.cells #[.int .u32 xf, .string xg, .string xb] 28)).alloc (.cells #[.slice none 0 0, .slice none 0 0] 25)).alloc (.cells #[.int .u8 0] 35)).alloc (.cells #[.int .i64 0] 36)) (w.heap.size + 1 + 1) [.slice none 0 0, .slice none 0 0] := (((Blk.newAt ((w.alloc (.cells #[.slice ra R.length rc, .slice aa A.length ac] 25)).alloc (.cells #[.int .u32 xf, .string xg, .string xb] 28)) [.slice none 0 0, .slice none 0 0] 25 (w.heap.size + 1 + 1) (by simp)).alloc (.cells #[.int .u8 0] 35)).alloc (.cells #[.int .i64 0] 36))
  have q5 : Blk (((((w.alloc (.cells #[.slice ra R.length rc, .slice aa A.length ac] 25)).alloc (.cells #[.int .u32 xf, .string xg, .string xb] 28)).alloc (.cells #[.slice none 0 0, .slice none 0 0] 25)).alloc (.cells #[.int .u8 0] 35)).alloc (.cells #[.int .i64 0] 36)) (w.heap.size + 1 + 1 + 1) [.int .u8 0] := ((Blk.newAt (((w.alloc (.cells #[.slice ra R.length rc, .slice aa A.length ac] 25)).alloc (.cells #[.int .u32 xf, .string xg, .string xb] 28)).alloc (.cells #[.slice none 0 0, .slice none 0 0] 25)) [.int .u8 0] 35 (w.heap.size + 1 + 1 + 1) (by simp)).alloc (.cells #[.int .i64 0] 36))
  have r5 : Blk (((((w.alloc (.cells #[.slice ra R.length rc, .slice aa A.length ac] 25)).alloc (.cells #[.int .u32 xf, .string xg, .string xb] 28)).alloc (.cells #[.slice none 0 0, .slice none 0 0] 25)).alloc (.cells #[.int .u8 0] 35)).alloc (.cells #[.int .i64 0] 36)) (w.heap.size + 1 + 1 + 1 + 1) [.int .i64 0] := (Blk.newAt ((((w.alloc (.cells #[.slice ra R.length rc, .slice aa A.length ac] 25)).alloc (.cells #[.int .u32 xf, .string xg, .string xb] 28)).alloc (.cells #[.slice none 0 0, .slice none 0 0] 25)).alloc (.cells #[.int .u8 0] 35)) [.int .i64 0] 36 (w.heap.size + 1 + 1 + 1 + 1) (by simp))
  have hz5 : w.heap.size + 5 ≤ (((((w.alloc (.cells #[.slice ra R.length rc, .slice aa A.length ac] 25)).alloc (.cells #[.int .u32 xf, .string xg, .string xb] 28)).alloc (.cells #[.slice none 0 0, .slice none 0 0] 25)).alloc (.cells #[.int .u8 0] 35)).alloc (.cells #[.int .i64 0] 36)).heap.size := by simp
  have y0 := t5.at 0 rfl; have y1 := t5.at 1 rfl; have x0 := z5.at 0 rfl; have x1 := z5.at 1 rfl; have x2 := z5.at 2 rfl
  have htab := Lib.hid (tabE_yes hTab)
  have hxv := Lib.hid (show (if XidOk (xf, xg, xb) then (0 : Int) else 40) = 0 from if_pos hXid)
  clear hTab hXid
  obtain ⟨R', A', xa, er⟩ := D
  simp only at *
  have hdo' := Lib.hid hdo; clear hdo
  have hQ' := Lib.hid hQ; clear hQ
  have hX' := Lib.hid hX; clear hX
  go_enter_defers Try.func47, Try.ntmps47
  go_wp2_with (first | (go_at_call 21; refine (tcheck_any _ _ _ R A (hR.pure hB5) (hA.pure hB5) hLR hLA).mono ?_; rw [htab.out]; rintro e w1 ⟨rfl, hB1⟩; have t1 := t5.pure hB1; have z1 := z5.pure hB1; have p1 := p5.pure hB1; have q1 := q5.pure hB1; have r1 := r5.pure hB1; have hT1 := hB5.trans (hB1.mono hB5.size); have y2 := t1.at 0 rfl; have y3 := t1.at 1 rfl; have x3 := z1.at 0 rfl; have x4 := z1.at 1 rfl; have x5 := z1.at 2 rfl) | (go_at_call 50; with_reducible refine (must_ok _ _).mono ?_; rintro e _ ⟨rfl, rfl⟩) | (go_at_call 99; refine (xid_chk _ (xf, xg, xb) _ hxv.out).mono ?_; rintro e w2 ⟨rfl, hB2⟩; have t2 := t1.pure hB2; have p2 := p1.pure hB2; have q2 := q1.pure hB2; have r2 := r1.pure hB2; have hT2 := hT1.trans (hB2.mono hT1.size); have y4 := t2.at 0 rfl; have y5 := t2.at 1 rfl))
  have td := t2.drew; have pd := p2.drew; have qd := q2.drew; have rd := r2.drew; have hTd := below_dr hT2
  refine wp_region_noPanic ?_
  refine wp_region_held_drew (S := (fun w' => w'.cell? ⟨w.heap.size, 0, none⟩ = some (.slice ra R.length rc) ∧ w'.cell? ⟨w.heap.size, 1, none⟩ = some (.slice aa A.length ac))) (by kernel_rfl) ?_ (fun hHeld => ?_)
  · (first | exact ⟨k0, k1⟩ | exact ⟨j0, j1⟩ | exact ⟨i0, i1⟩ | exact ⟨y4, y5⟩)
  refine takeH 0 23 (v := ?_) rfl rfl (by kernel_rfl) (by kernel_rfl) (by kernel_rfl) (fun _ _ _ h => h) (Or.inl ⟨by kernel_rfl, ?_⟩) hHeld ?_
  rotate_left 1
  · (intro w hSw; (try dsimp only at hSw); go_simp; (try with_reducible rfl))
  try simp only [Act.put, List.setIfInBounds_toArray, List.set_cons_zero, List.set_cons_succ]
  refine takeH 1 24 (v := ?_) rfl rfl (by kernel_rfl) (by kernel_rfl) (by kernel_rfl) (fun _ _ _ h => h) (Or.inl ⟨by kernel_rfl, ?_⟩) hHeld ?_
  rotate_left 1
  · (intro w hSw; (try dsimp only at hSw); go_simp; (try with_reducible rfl))
  try simp only [Act.put, List.setIfInBounds_toArray, List.set_cons_zero, List.set_cons_succ]
  refine takeH 3 26 (v := ?_) rfl rfl (by kernel_rfl) (by kernel_rfl) (by kernel_rfl) (fun _ _ _ h => h) (Or.inl ⟨by kernel_rfl, ?_⟩) hHeld ?_
  rotate_left 1
  · (intro w hSw; (try dsimp only at hSw); go_simp; (try with_reducible rfl))
  try simp only [Act.put, List.setIfInBounds_toArray, List.set_cons_zero, List.set_cons_succ]
  refine takeH 4 27 (v := ?_) rfl rfl (by kernel_rfl) (by kernel_rfl) (by kernel_rfl) (fun _ _ _ h => h) (Or.inl ⟨by kernel_rfl, ?_⟩) hHeld ?_
  rotate_left 1
  · (intro w hSw; (try dsimp only at hSw); go_simp; (try with_reducible rfl))
  try simp only [Act.put, List.setIfInBounds_toArray, List.set_cons_zero, List.set_cons_succ]
  refine wpAnyH_ready (rs := [2]) (by kernel_rfl) (by simp) ?_
  refine AllReadyH.cons rfl (fun K hK => ?_) AllReadyH.nil
  go_simp
  (go_at_call 100; refine (br_clone _ _ R (hR.pure hTd) hLR).mono ?_; rintro e w3 ⟨v, rfl, hOR3, hB3⟩; obtain ⟨ba, bc, rfl⟩ := own_len hOR3; have t3 := td.pure hB3; have p3 := pd.pure hB3; have q3 := qd.pure hB3; have r3 := rd.pure hB3; have hT3 := hTd.trans (hB3.mono hTd.size); have i0 := t3.at 0 rfl; have i1 := t3.at 1 rfl)
  refine hK.out _ _ ?_ (fun hHeld => ?_)
  · (first | exact ⟨k0, k1⟩ | exact ⟨j0, j1⟩ | exact ⟨i0, i1⟩ | exact ⟨y4, y5⟩)
  clear hK K
  try simp only [Act.put, List.setIfInBounds_toArray, List.set_cons_zero, List.set_cons_succ]
  refine wpAnyH_ready (rs := [5]) (by kernel_rfl) (by simp) ?_
  refine AllReadyH.cons rfl (fun K hK => ?_) AllReadyH.nil
  go_simp
  (go_at_call 101; refine (asc_clone _ _ A (hA.pure hT3) hLA).mono ?_; rintro e w4 ⟨v, rfl, hOA4, hB4⟩; obtain ⟨ca, cc, rfl⟩ := own_len hOA4; have t4 := t3.pure hB4; have p4 := p3.pure hB4; have q4 := q3.pure hB4; have r4 := r3.pure hB4; have hT4 := hT3.trans (hB4.mono hT3.size); have j0 := t4.at 0 rfl; have j1 := t4.at 1 rfl)
  refine hK.out _ _ ?_ (fun hHeld => ?_)
  · (first | exact ⟨k0, k1⟩ | exact ⟨j0, j1⟩ | exact ⟨i0, i1⟩ | exact ⟨y4, y5⟩)
  clear hK K
  try simp only [Act.put, List.setIfInBounds_toArray, List.set_cons_zero, List.set_cons_succ]
  have hOR4 := hOR3.pure hB4
  have hAl := (Below.refl w4.heap.size w4).alloc (Nat.le_refl _) (.cells #[.slice ba R.length bc, .slice ca A.length cc] 91)
  have hBx : Blk (w4.alloc (.cells #[.slice ba R.length bc, .slice ca A.length cc] 91)) w4.heap.size [.slice ba R.length bc, .slice ca A.length cc] := Blk.new w4 [.slice ba R.length bc, .slice ca A.length cc] 91
  have t6 := t4.pure hAl; have p6 := p4.pure hAl; have q6 := q4.pure hAl; have r6 := r4.pure hAl; have hT6 := hT4.trans (hAl.mono hT4.size)
  have k0 := t6.at 0 rfl; have k1 := t6.at 1 rfl
  refine takeH 6 29 (v := ?_) rfl rfl (by kernel_rfl) (by kernel_rfl) (by kernel_rfl) (fun _ _ _ h => h) (Or.inl ⟨by kernel_rfl, ?_⟩) hHeld ?_
  rotate_left 1
  · (intro w hSw; (try dsimp only at hSw); go_simp; (try with_reducible rfl))
  try simp only [Act.put, List.setIfInBounds_toArray, List.set_cons_zero, List.set_cons_succ]
  refine takeH 7 30 (v := ?_) rfl rfl (by kernel_rfl) (by kernel_rfl) (by kernel_rfl) (fun _ _ _ h => h) (Or.inl ⟨by kernel_rfl, ?_⟩) hHeld ?_
  rotate_left 1
  · (intro w hSw; (try dsimp only at hSw); go_simp; (try with_reducible rfl))
  try simp only [Act.put, List.setIfInBounds_toArray, List.set_cons_zero, List.set_cons_succ]
  refine wpAnyH_ready (rs := [8]) (by kernel_rfl) (by simp) ?_
  refine AllReadyH.cons rfl (fun K hK => ?_) AllReadyH.nil
  go_simp
  refine hK.out _ _ ?_ (fun hHeld => ?_)
  · (first | exact ⟨k0, k1⟩ | exact ⟨j0, j1⟩ | exact ⟨i0, i1⟩ | exact ⟨y4, y5⟩)
  clear hK K
  try simp only [Act.put, List.setIfInBounds_toArray, List.set_cons_zero, List.set_cons_succ]
  refine takeH 9 11 (v := ?_) rfl rfl (by kernel_rfl) (by kernel_rfl) (by kernel_rfl) (fun _ _ _ h => h) (Or.inl ⟨by kernel_rfl, ?_⟩) hHeld ?_
  rotate_left 1
  · (intro w hSw; (try dsimp only at hSw); go_simp; (try with_reducible rfl))
  try simp only [Act.put, List.setIfInBounds_toArray, List.set_cons_zero, List.set_cons_succ]
  refine wpAnyH_done (by kernel_rfl) ?_ _
  refine NoPanic.normal ?_
  have hge : w.heap.size + 5 ≤ w2.heap.size := Nat.le_trans hz5 (Nat.le_trans hB1.size hB2.size)
  have hge4 : w.heap.size + 5 ≤ w4.heap.size := Nat.le_trans hge (Nat.le_trans hB3.size hB4.size)
  have hOR6 := (hOR4.pure hAl).rebase (b' := w.heap.size + 5) (fun k hk => Nat.le_trans hge (hOR4.ge hk))
  have hOA6 := (hOA4.pure hAl).rebase (b' := w.heap.size + 5) (fun k hk => Nat.le_trans (Nat.le_trans hge hB3.size) (hOA4.ge hk))
  have hpre : DoPre w.heap.size (w4.alloc (.cells #[.slice ba R.length bc, .slice ca A.length cc] 91)) w4.heap.size (.slice ba R.length bc) (.slice ca A.length cc) R A := ⟨by simp; omega, hBx, hge4, hOR6, hOA6, fun e => by have := hOR4.lt e; omega, fun e => by have := hOA4.lt e; omega, fun k e1 e2 => by have h1 := hOR3.lt e1; have h2 := hOA4.ge e2; omega⟩
  have hpre' := Lib.hid hpre; clear hpre hOR6 hOA6
  go_wp2
  refine (hdo'.out _ _ _ _ hT6 hpre'.out).mono ?_
  rintro e w7 (⟨rv2, av2, rfl, rfl, tB, hOR7, hOA7, hU, hq⟩ | ⟨c, hc, hD, rfl, hU⟩)
  · have p7 := p6.upd hU (fun h => by rcases h with h | h; have := hX'.out _ h; omega; omega); have q7 := q6.upd hU (fun h => by rcases h with h | h; have := hX'.out _ h; omega; omega); have r7 := r6.upd hU (fun h => by rcases h with h | h; have := hX'.out _ h; omega; omega)
    obtain ⟨da, dc, rfl⟩ := own_len hOR7; obtain ⟨ea, ec, rfl⟩ := own_len hOA7
    have p8 := p7.other ⟨w.heap.size + 1 + 1 + 1, 0, none⟩ (.int .u8 xa) (by simp only; omega); have q8 := q7.set 0 (.int .u8 xa); have r8 := r7.other ⟨w.heap.size + 1 + 1 + 1, 0, none⟩ (.int .u8 xa) (by simp only; omega); have tB8 := tB.other ⟨w.heap.size + 1 + 1 + 1, 0, none⟩ (.int .u8 xa) (by simp only; omega)
    have m0 := q7.at 0 rfl; have m1 := q7.frozen 0
    have n0 := p8.at 0 rfl; have n1 := p8.at 1 rfl; have n2 := q8.at 0 rfl; have n3 := r8.at 0 rfl; have n4 := tB8.at 0 rfl; have n5 := tB8.at 1 rfl; have n6 := p8.frozen 0; have n7 := p8.frozen 1; have n8 := q8.frozen 0; have n9 := r8.frozen 0
    have hU' := Lib.hid hU; have hq' := Lib.hid hq; have hOR7' := Lib.hid hOR7; have hOA7' := Lib.hid hOA7; clear hU hq hOR7 hOA7
    have hne1 : w4.heap.size ≠ w.heap.size + 1 + 1 := by omega
    have hne2 : w4.heap.size ≠ w.heap.size + 1 + 1 + 1 := by omega
    have hne3 : w4.heap.size ≠ w.heap.size + 1 + 1 + 1 + 1 := by omega
    go_wp2
    go_region
    go_wp2
    have p9 := (((((p8.set 0 (.slice da R'.length dc)).set 1 (.slice ea A'.length ec)).other ⟨w.heap.size + 1 + 1 + 1, 0, none⟩ (.int .u8 xa) (by simp only; omega)).other ⟨w.heap.size + 1 + 1 + 1 + 1, 0, none⟩ (.int .i64 0) (by simp only; omega))).drew
    have q9 := (((((q8.other ⟨w.heap.size + 1 + 1, 0, none⟩ (.slice da R'.length dc) (by simp only; omega)).other ⟨w.heap.size + 1 + 1, 1, none⟩ (.slice ea A'.length ec) (by simp only; omega)).set 0 (.int .u8 xa)).other ⟨w.heap.size + 1 + 1 + 1 + 1, 0, none⟩ (.int .i64 0) (by simp only; omega))).drew
    have r9 := (((((r8.other ⟨w.heap.size + 1 + 1, 0, none⟩ (.slice da R'.length dc) (by simp only; omega)).other ⟨w.heap.size + 1 + 1, 1, none⟩ (.slice ea A'.length ec) (by simp only; omega)).other ⟨w.heap.size + 1 + 1 + 1, 0, none⟩ (.int .u8 xa) (by simp only; omega)).set 0 (.int .i64 0))).drew
    have hV : Upd (OnS (w.heap.size + 1 + 1)) w7 _ := ((((((Upd.refl _ w7).trans (Upd.set (p := ⟨w.heap.size + 1 + 1 + 1, 0, none⟩) (Or.inr (Or.inl rfl)) (.int .u8 xa)) (fun _ h _ => h)).trans (Upd.set (p := ⟨w.heap.size + 1 + 1, 0, none⟩) (Or.inl rfl) (.slice da R'.length dc)) (fun _ h _ => h)).trans (Upd.set (p := ⟨w.heap.size + 1 + 1, 1, none⟩) (Or.inl rfl) (.slice ea A'.length ec)) (fun _ h _ => h)).trans (Upd.set (p := ⟨w.heap.size + 1 + 1 + 1, 0, none⟩) (Or.inr (Or.inl rfl)) (.int .u8 xa)) (fun _ h _ => h)).trans (Upd.set (p := ⟨w.heap.size + 1 + 1 + 1 + 1, 0, none⟩) (Or.inr (Or.inr rfl)) (.int .i64 0)) (fun _ h _ => h)).drew
    have o0 := p9.at 0 rfl; have o1 := p9.at 1 rfl; have o2 := q9.at 0 rfl; have o3 := r9.at 0 rfl
    refine leaves_cons (f := 98) (args := #[.pointer (some ⟨w.heap.size + 1 + 1, 0, none⟩), .pointer (some ⟨w.heap.size + 1 + 1 + 1, 0, none⟩), .pointer (some ⟨w.heap.size + 1 + 1 + 1 + 1, 0, none⟩)]) (by simp) (by simp [go_sem]) ?_
    refine (on1_idle _ (w.heap.size + 1 + 1)).mono ?_
    rintro e u' w10 ⟨rfl, rfl, rfl⟩
    simp only [Leaves, settle]
    refine ⟨.tuple #[.agg #[.slice da R'.length dc, .slice ea A'.length ec], .int .u8 xa, .int .i64 0], (by simp [results, Try.results47, go_sem, o0, o1, o2, o3]), _, _, rfl, ?_, ?_, ?_, ?_⟩
    · exact (hOR7'.out.upd hV (fun k hk => by have := hOR7'.out.ge hk; unfold OnS; omega)).rebase (fun k hk => by have := hOR7'.out.ge hk; omega)
    · exact (hOA7'.out.upd hV (fun k hk => by have := hOA7'.out.ge hk; unfold OnS; omega)).rebase (fun k hk => by have := hOA7'.out.ge hk; omega)
    · exact ((Upd.of_below hT6).trans (hU'.out.mono (T := fun k => X k ∨ w.heap.size ≤ k) (fun k h _ => by rcases h with h | h; exact .inl h; exact .inr (by omega))) (fun k h _ => h)).trans (hV.mono (T := fun k => X k ∨ w.heap.size ≤ k) (fun k h _ => by unfold OnS at h; exact .inr (by omega))) (fun k h _ => h)
    · exact hQ'.out _ _ hq'.out (hV.mono (fun k h _ => by unfold OnS at h; omega))
  · have p7 := p6.upd hU (fun h => by rcases h with h | h; have := hX'.out _ h; omega; omega); have q7 := q6.upd hU (fun h => by rcases h with h | h; have := hX'.out _ h; omega; omega); have r7 := r6.upd hU (fun h => by rcases h with h | h; have := hX'.out _ h; omega; omega)
    cases hD
    have hU' := Lib.hid hU; clear hU
    go_wp2
    refine leaves_cons (f := 98) (args := #[.pointer (some ⟨w.heap.size + 1 + 1, 0, none⟩), .pointer (some ⟨w.heap.size + 1 + 1 + 1, 0, none⟩), .pointer (some ⟨w.heap.size + 1 + 1 + 1 + 1, 0, none⟩)]) (by simp) (by simp [go_sem]) ?_
    refine (on1_panicking _ (w.heap.size + 1 + 1) er _ _ _ _ p7 q7 r7).mono ?_
    rintro e u' w9 ⟨rfl, rfl, p9, q9, r9, hU9⟩
    have g0 := p9.at 0 rfl; have g1 := p9.at 1 rfl; have g2 := q9.at 0 rfl; have g3 := r9.at 0 rfl
    simp only [Leaves, settle, List.dropWhile_nil]
    refine ⟨.tuple #[.agg #[.slice none 0 0, .slice none 0 0], .int .u8 0, .int .i64 er], (by simp [results, Try.results47, go_sem, g0, g1, g2, g3]), _, _, rfl, Own.nil, Own.nil, ?_, fun h => absurd h hc⟩
    exact ((Upd.of_below hT6).trans (hU'.out.mono (T := fun k => X k ∨ w.heap.size ≤ k) (fun k h _ => by rcases h with h | h; exact .inl h; exact .inr (by omega))) (fun k h _ => h)).trans (hU9.mono (T := fun k => X k ∨ w.heap.size ≤ k) (fun k h _ => by unfold OnS at h; exact .inr (by omega))) (fun k h _ => h)
end Go.Proofs.Ytcelpincmpjhkaa
