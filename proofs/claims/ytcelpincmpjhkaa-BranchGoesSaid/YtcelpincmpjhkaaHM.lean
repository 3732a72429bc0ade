/- Chapter 19, the document's side: Forget. Conditions: rows and associations read; no timeout is negative; at most a million of each. Written by gen_brDh.py. (Texts joined; the heads of the others stand below.) -/
import Derived.Test.YtcelpincmpjhkaaBrDc
import Derived.Test.YtcelpincmpjhkaaHD

/- Chapter 19, the document's side: Recover; names' Same at equal lists. Conditions: rows and associations read; no timeout is negative; at most a million of each. Written by gen_brDf.py. -/
namespace Go.Proofs.Ytcelpincmpjhkaa
set_option linter.unusedSimpArgs false
set_option linter.unusedVariables false
open Go.RowKit

theorem xEnc_cells {w : World} {g off n cap k : Nat} {L : List Xid} (h : Slc xEnc 3 w (.slice (some ⟨g, off, none⟩) n cap) L) (hk : k < L.length) :
    w.cell? ⟨g, off + k * 3, none⟩ = some (.int .u32 L[k].1) ∧ w.cell? ⟨g, off + k * 3 + 1, none⟩ = some (.string L[k].2.1) ∧ w.cell? ⟨g, off + k * 3 + 2, none⟩ = some (.string L[k].2.2) :=
  ⟨h.get k hk 0 _ rfl, h.get k hk 1 _ rfl, h.get k hk 2 _ rfl⟩
set_option maxRecDepth 100000 in
set_option maxHeartbeats 1600000 in
theorem xsame_eq (w : World) (u v : Value) (L : List Xid) (hu : Slc xEnc 3 w u L) (hv : Slc xEnc 3 w v L) (hL : L.length ≤ 1000000) :
    Calls Try.prog 22 #[u, v] w fun e w' => e = .returned (.bool true) ∧ Below w.heap.size w w' := by
  obtain ⟨a, cap, rfl, hm⟩ := hu.len
  obtain ⟨b, cbp, rfl, _⟩ := hv.len
  unfold maxLen at hm
  go_enter Try.func22, Try.ntmps22
  go_wp2
  go_loopw [5] (fun s5 wr => ∃ k : Nat, k ≤ L.length ∧ s5 = .int .i64 k ∧ Below w.heap.size w wr) (fun s5 _ => L.length - (intOf s5).toNat)
  case atStart => exact ⟨0, by omega, rfl, Below.refl _ _⟩
  case round =>
    obtain ⟨k, hk, rfl, hB⟩ := hrel
    by_cases hlt : k < L.length
    · have hur := hu.pure hB
      have hvr := hv.pure hB
      obtain ⟨g, off, rfl⟩ := hur.addr hlt
      obtain ⟨h, oft, rfl⟩ := hvr.addr hlt
      obtain ⟨c0, c1, c2⟩ := xEnc_cells hur hlt
      obtain ⟨d0, d1, d2⟩ := xEnc_cells hvr hlt
      have hqn := fun (x : World) => xid_neq x L[k].1 L[k].1 L[k].2.1 L[k].2.2 L[k].2.1 L[k].2.2
      have hz : ((L[k].1, L[k].2.1, L[k].2.2) != (L[k].1, L[k].2.1, L[k].2.2)) = false := by rw [neX_decide]; exact decide_eq_false (fun h => h rfl)
      rw [hz] at hqn
      clear hz
      have hk0 : (0 : Int) ≤ (k : Int) := by omega
      have hk1 : (k : Int) < (L.length : Int) := by omega
      go_wp2
      go_quiet (fail)
      go_wp2
      go_roundw
      case rel => exact ⟨k + 1, by omega, by go_num, below_drewN hB _⟩
      case measure => simp [intOf]; omega
    · obtain rfl : k = L.length := by omega
      go_wp2
      go_ret
      exact ⟨rfl, hB⟩

theorem recD_nil (A : List Asc) : recD [] A = [] := by unfold recD; split <;> rfl
set_option maxRecDepth 100000 in
set_option maxHeartbeats 3200000 in
theorem drecover_any (w : World) (rv av : Value) (R : List Brn) (A : List Asc) (hR : Slc brEnc 7 w rv R) (hA : Slc ascEnc 5 w av A) (hLR : R.length ≤ 1000000) (hLA : A.length ≤ 1000000) (htm : ∀ b ∈ R, 0 ≤ b.tm) :
    Calls Try.prog 24 #[.agg #[rv, av]] w fun e w' => ∃ r, e = .returned r ∧ Own w.heap.size 28 3 xEnc w' r (recD R A) ∧ Below w.heap.size w w' := by
  obtain ⟨ra, rc, rfl, hm1⟩ := hR.len
  obtain ⟨aa, ac, rfl, hm2⟩ := hA.len
  unfold maxLen at hm1 hm2
  have hT0' : Below w.heap.size w (w.alloc (.cells #[.slice ra R.length rc, .slice aa A.length ac] 25)) := (Below.refl w.heap.size w).alloc (Nat.le_refl _) _
  have t0' := Blk.new w [.slice ra R.length rc, .slice aa A.length ac] 25
  obtain ⟨W0, hW0⟩ : ∃ W0, W0 = w.alloc (.cells #[.slice ra R.length rc, .slice aa A.length ac] 25) := ⟨_, rfl⟩
  have hT0 : Below w.heap.size w W0 := by rw [hW0]; exact hT0'
  have t0 : Blk W0 w.heap.size [.slice ra R.length rc, .slice aa A.length ac] := by rw [hW0]; exact t0'
  clear hT0' t0'
  go_enter Try.func24, Try.ntmps24
  go_wp2
  rw [← hW0]
  clear hW0
  go_loopw [3, 4] (fun s3 s4 wr => ∃ k : Nat, k ≤ R.length ∧ s4 = .int .i64 k ∧ (0 < k → TabOk R A) ∧ Own W0.heap.size 28 3 xEnc wr s3 (held (R.take k)) ∧ Below W0.heap.size W0 wr) (fun _ s4 _ => R.length - (intOf s4).toNat)
  case atStart => exact ⟨0, by omega, rfl, fun h => absurd h (by omega), Own.nil, Below.refl _ _⟩
  case round =>
    obtain ⟨k, hk, rfl, hTk, hO, hB⟩ := hrel
    have hTr := hT0.trans (hB.mono hT0.size)
    have tt := t0.pure hB
    have hBs := hB.size
    have c0 := tt.at 0 rfl; have c1 := tt.at 1 rfl
    by_cases hlt : k < R.length
    · rcases tabE_cases R A with ⟨h1, h2⟩ | ⟨h1, h2⟩
      rotate_left 1
      · have htab := Lib.hid h2
        have hk0 : k = 0 := by
          by_cases h : 0 < k
          · exact absurd (hTk h) h1
          · omega
        have hr : Hid (recD R A = held (R.take k)) := Lib.hid (by unfold recD; rw [if_neg h1, hk0]; rfl)
        clear h1 h2 hTk hk0
        go_wp2_with (first | (go_at_call 20; (with_reducible refine (dcheck2 _ _ _ R A 190 (hR.pure hTr) (hA.pure hTr) hLR hLA htm htab.out).mono ?_); rintro e w1 ⟨rfl, hB1⟩; have t1 := tt.pure hB1; have d0 := t1.at 0 rfl; have d1 := t1.at 1 rfl; have hT1 := hTr.trans (hB1.mono hTr.size); have hBw1 := hB.trans (hB1.mono hB.size); have hO1 := hO.pure hB1))
        go_ret
        exact ⟨_, rfl, by rw [hr.out]; exact hO1.rebase (fun j hj => Nat.le_trans hT0.size (hO1.ge hj)), hT1⟩
      · have htab := Lib.hid h2
        have hTab := Lib.hid h1
        have hst : 1 ≤ R[k].st := (h1.1.1 _ (List.getElem_mem hlt)).2.1
        clear h1 h2 hTk
        obtain ⟨g, off, rfl⟩ := (hR.pure hTr).addr hlt
        have hk0 : (0 : Int) ≤ (k : Int) := by omega
        have hk1 : (k : Int) < (R.length : Int) := by omega
        have hll : (held (R.take k)).length ≤ k := by unfold held; rw [List.length_map]; exact Nat.le_trans (List.length_filter_le _ _) (by rw [List.length_take]; omega)
        have hkeq := Lib.hid (held_snoc hlt)
        by_cases hq : R[k].st = 1
        · have hqb : decide (1 < R[k].st) = false := decide_eq_false (by omega)
          have hnew := Lib.hid (show held (R.take (k + 1)) = held (R.take k) by rw [hkeq.out, hq]; simp)
          clear hq hst
          go_wp2_with (first | (go_at_call 20; (with_reducible refine (dcheck2 _ _ _ R A 0 (hR.pure hTr) (hA.pure hTr) hLR hLA htm htab.out).mono ?_); rintro e w1 ⟨rfl, hB1⟩; have t1 := tt.pure hB1; have d0 := t1.at 0 rfl; have d1 := t1.at 1 rfl; have hT1 := hTr.trans (hB1.mono hTr.size); have hBw1 := hB.trans (hB1.mono hB.size); have hO1 := hO.pure hB1; obtain ⟨e0, e1, e2, e3, -⟩ := br_cells (hR.pure hT1) hlt))
          go_roundw
          case rel => exact ⟨k + 1, by omega, by go_num, fun _ => hTab.out, by rw [hnew.out]; exact hO1, hBw1⟩
          case measure => simp [intOf]; omega
        · have hqb : decide (1 < R[k].st) = true := decide_eq_true (by omega)
          have hnew := Lib.hid (show held (R.take (k + 1)) = held (R.take k) ++ [R[k].x] by rw [hkeq.out, if_pos (by simpa using hq)])
          clear hq hst
          go_wp2_with (first | (go_at_call 20; (with_reducible refine (dcheck2 _ _ _ R A 0 (hR.pure hTr) (hA.pure hTr) hLR hLA htm htab.out).mono ?_); rintro e w1 ⟨rfl, hB1⟩; have t1 := tt.pure hB1; have d0 := t1.at 0 rfl; have d1 := t1.at 1 rfl; have hT1 := hTr.trans (hB1.mono hTr.size); have hBw1 := hB.trans (hB1.mono hB.size); have hO1 := hO.pure hB1; obtain ⟨e0, e1, e2, e3, -⟩ := br_cells (hR.pure hT1) hlt) | (at_builtin; refine wpList_app1 rfl (.tmp 24) (.tmp 31) 52 28 rfl elem_xid xEnc_len xEnc_one u3 _ rfl (hO1.alloc _) w1.heap.size 1 R[k].x rfl (fun j u hu => ((Blk.newAt2 _ (xEnc R[k].x) 28 w1.heap.size rfl).cell j).trans hu) (by omega) (by unfold maxLen; omega) (by have := hBw1.size; simp; omega) ?_; intro g' cap' w4 hown hgr hfr))
          go_roundw
          case rel => exact ⟨k + 1, by omega, by go_num, fun _ => hTab.out, by rw [hnew.out]; exact hown, (hBw1.alloc hBw1.size _).grown hgr (by simp; have := hBw1.size; omega) (fun j e => hO1.ge e)⟩
          case measure => simp [intOf]; omega
    · obtain rfl : k = R.length := by omega
      rw [List.take_length] at hO
      have hr : Hid (recD R A = held R) := Lib.hid (by
        by_cases h : 0 < R.length
        · unfold recD; rw [if_pos (hTk h)]
        · have : R = [] := List.eq_nil_of_length_eq_zero (by omega)
          rw [this, recD_nil]; rfl)
      clear hTk
      go_wp2
      go_ret
      exact ⟨_, rfl, by rw [hr.out]; exact hO.rebase (fun j hj => Nat.le_trans hT0.size (hO.ge hj)), hTr⟩
end Go.Proofs.Ytcelpincmpjhkaa

/- Chapter 19, the document's side: may. Conditions: rows and associations read; no timeout is negative; at most a million of each. -/
namespace Go.Proofs.Ytcelpincmpjhkaa
set_option linter.unusedSimpArgs false
set_option linter.unusedVariables false
open Go.RowKit

theorem mayB_tab' {R : List Brn} {A : List Asc} {x : Xid} (h : TabOk R A) : mayB R A true x = if XidOk x then 0 else 40 := by
  unfold mayB; rw [tabE_yes h]; simp
set_option maxRecDepth 100000 in
set_option maxHeartbeats 1600000 in
theorem dmay_any (w : World) (rv av : Value) (R : List Brn) (A : List Asc) (arg : Bool) (x : Xid) (m : Int) (hR : Slc brEnc 7 w rv R) (hA : Slc ascEnc 5 w av A) (hLR : R.length ≤ 1000000) (hLA : A.length ≤ 1000000) (htm : ∀ b ∈ R, 0 ≤ b.tm) (hm : mayB R A (!arg) x = m) :
    Calls Try.prog 56 #[.agg #[rv, av], .bool arg, .agg #[.int .u32 x.1, .string x.2.1, .string x.2.2]] w fun e w' => e = .returned (.int .i64 m) ∧ Below w.heap.size w w' := by
  obtain ⟨ra, rc, rfl, -⟩ := hR.len
  obtain ⟨aa, ac, rfl, -⟩ := hA.len
  obtain ⟨xf, xg, xb⟩ := x
  have hT0 : Below w.heap.size w ((w.alloc (.cells #[.slice ra R.length rc, .slice aa A.length ac] 25)).alloc (.cells #[.int .u32 xf, .string xg, .string xb] 28)) := ((Below.refl _ _).alloc (Nat.le_refl _) _).alloc (by simp) _
  have t0 : Blk ((w.alloc (.cells #[.slice ra R.length rc, .slice aa A.length ac] 25)).alloc (.cells #[.int .u32 xf, .string xg, .string xb] 28)) w.heap.size [.slice ra R.length rc, .slice aa A.length ac] := (Blk.new w [.slice ra R.length rc, .slice aa A.length ac] 25).alloc _
  have x0 : Blk ((w.alloc (.cells #[.slice ra R.length rc, .slice aa A.length ac] 25)).alloc (.cells #[.int .u32 xf, .string xg, .string xb] 28)) (w.heap.size + 1) [.int .u32 xf, .string xg, .string xb] := Blk.newAt2 (w.alloc (.cells #[.slice ra R.length rc, .slice aa A.length ac] 25)) [.int .u32 xf, .string xg, .string xb] 28 (w.heap.size + 1) (by simp)
  have c0 := t0.at 0 rfl; have c1 := t0.at 1 rfl; have c2 := x0.at 0 rfl; have c3 := x0.at 1 rfl; have c4 := x0.at 2 rfl
  subst hm
  rcases tabE_cases R A with ⟨h1, h2⟩ | ⟨h1, h2⟩
  rotate_left 1
  · have htab := Lib.hid h2
    have hres : Hid (mayB R A (!arg) (xf, xg, xb) = 190) := Lib.hid (by unfold mayB; rw [h2]; rfl)
    clear h1 h2
    go_enter Try.func56, Try.ntmps56
    go_wp2_with (first | (go_at_call 20; (with_reducible refine (dcheck2 _ _ _ R A 190 (hR.pure hT0) (hA.pure hT0) hLR hLA htm htab.out).mono ?_); rintro e w1 ⟨rfl, hB1⟩; have hT1 := hT0.trans (hB1.mono hT0.size)))
    go_ret
    exact ⟨by rw [hres.out]; rfl, hT1⟩
  have htab := Lib.hid h2
  cases arg
  rotate_left 1
  · have hres : Hid (mayB R A (!true) (xf, xg, xb) = 2) := Lib.hid (by unfold mayB; rw [h2]; rfl)
    clear h1 h2
    go_enter Try.func56, Try.ntmps56
    go_wp2_with (first | (go_at_call 20; (with_reducible refine (dcheck2 _ _ _ R A 0 (hR.pure hT0) (hA.pure hT0) hLR hLA htm htab.out).mono ?_); rintro e w1 ⟨rfl, hB1⟩; have hT1 := hT0.trans (hB1.mono hT0.size)))
    go_ret
    exact ⟨by rw [hres.out]; rfl, hT1⟩
  · obtain ⟨v, hv⟩ : ∃ v, (if XidOk (xf, xg, xb) then (0 : Int) else 40) = v := ⟨_, rfl⟩
    have hres : Hid (mayB R A (!false) (xf, xg, xb) = v) := Lib.hid (by rw [← hv]; exact mayB_tab' h1)
    have hxv := Lib.hid hv
    clear h1 h2 hv
    go_enter Try.func56, Try.ntmps56
    go_wp2_with (first | (go_at_call 20; (with_reducible refine (dcheck2 _ _ _ R A 0 (hR.pure hT0) (hA.pure hT0) hLR hLA htm htab.out).mono ?_); rintro e w1 ⟨rfl, hB1⟩; have hT1 := hT0.trans (hB1.mono hT0.size); have x1 := x0.pure hB1; have d2 := x1.at 0 rfl; have d3 := x1.at 1 rfl; have d4 := x1.at 2 rfl) | (go_at_call 73; refine (rcheck4 _ (xf, xg, xb) _ hxv.out).mono ?_; rintro e w2 ⟨rfl, hB2⟩; have hT2 := hT1.trans (hB2.mono hT1.size)))
    go_ret
    exact ⟨by rw [hres.out]; rfl, hT2⟩
end Go.Proofs.Ytcelpincmpjhkaa

/- Chapter 19, the document's side: Forget. Conditions: rows and associations read; no timeout is negative; at most a million of each. Written by gen_brDh.py. -/
namespace Go.Proofs.Ytcelpincmpjhkaa
set_option linter.unusedSimpArgs false
set_option linter.unusedVariables false
open Go.RowKit
theorem danswer2 (w : World) (b : Brn) (y : Int) (hy : answerD b.st = y) :
    Calls Try.prog 86 #[.agg #[.int .u32 b.x.1, .string b.x.2.1, .string b.x.2.2, .int .u8 b.st, .int .u8 b.why, .int .u32 b.tm, .int .u32 b.lf]] w fun e w' => e = .returned (.int .u8 y) ∧ Below w.heap.size w w' := by
  rw [← hy]; exact danswer_any w b

set_option maxRecDepth 100000 in
set_option maxHeartbeats 6400000 in
theorem dforget_any (w : World) (rv av : Value) (R : List Brn) (A : List Asc) (x : Xid) (hR : Slc brEnc 7 w rv R) (hA : Slc ascEnc 5 w av A) (hLR : R.length ≤ 1000000) (hLA : A.length ≤ 1000000) (htm : ∀ b ∈ R, 0 ≤ b.tm) :
    Calls Try.prog 32 #[.agg #[rv, av], .agg #[.int .u32 x.1, .string x.2.1, .string x.2.2]] w (TabPost w (overB (mayB R A true x) (forgetD R A x))) := by
  obtain ⟨ra, rc, rfl, -⟩ := hR.len
  obtain ⟨aa, ac, rfl, -⟩ := hA.len
  obtain ⟨xf, xg, xb⟩ := x
  have hT0 : Below w.heap.size w (((w.alloc (.cells #[.slice ra R.length rc, .slice aa A.length ac] 25)).alloc (.cells #[.int .u32 xf, .string xg, .string xb] 28)).alloc (.cells #[.slice none 0 0, .slice none 0 0] 25)) := (((Below.refl _ _).alloc (Nat.le_refl _) _).alloc (by simp) _).alloc (by simp; omega) _
  have hz0 : w.heap.size + 3 ≤ (((w.alloc (.cells #[.slice ra R.length rc, .slice aa A.length ac] 25)).alloc (.cells #[.int .u32 xf, .string xg, .string xb] 28)).alloc (.cells #[.slice none 0 0, .slice none 0 0] 25)).heap.size := by simp
  have t0 : Blk (((w.alloc (.cells #[.slice ra R.length rc, .slice aa A.length ac] 25)).alloc (.cells #[.int .u32 xf, .string xg, .string xb] 28)).alloc (.cells #[.slice none 0 0, .slice none 0 0] 25)) (w.heap.size) [.slice ra R.length rc, .slice aa A.length ac] := (((Blk.newAt2 w [.slice ra R.length rc, .slice aa A.length ac] 25 (w.heap.size) (by simp)).alloc (.cells #[.int .u32 xf, .string xg, .string xb] 28)).alloc (.cells #[.slice none 0 0, .slice none 0 0] 25))
  have x0 : Blk (((w.alloc (.cells #[.slice ra R.length rc, .slice aa A.length ac] 25)).alloc (.cells #[.int .u32 xf, .string xg, .string xb] 28)).alloc (.cells #[.slice none 0 0, .slice none 0 0] 25)) (w.heap.size + 1) [.int .u32 xf, .string xg, .string xb] := ((Blk.newAt2 (w.alloc (.cells #[.slice ra R.length rc, .slice aa A.length ac] 25)) [.int .u32 xf, .string xg, .string xb] 28 (w.heap.size + 1) (by simp)).alloc (.cells #[.slice none 0 0, .slice none 0 0] 25))
  have r0 : Blk (((w.alloc (.cells #[.slice ra R.length rc, .slice aa A.length ac] 25)).alloc (.cells #[.int .u32 xf, .string xg, .string xb] 28)).alloc (.cells #[.slice none 0 0, .slice none 0 0] 25)) (w.heap.size + 1 + 1) [.slice none 0 0, .slice none 0 0] := (Blk.newAt2 ((w.alloc (.cells #[.slice ra R.length rc, .slice aa A.length ac] 25)).alloc (.cells #[.int .u32 xf, .string xg, .string xb] 28)) [.slice none 0 0, .slice none 0 0] 25 (w.heap.size + 1 + 1) (by simp))
  have ct0 := t0.at 0 rfl
  have ct1 := t0.at 1 rfl
  have cx0 := x0.at 0 rfl
  have cx1 := x0.at 1 rfl
  have cx2 := x0.at 2 rfl
  have cr0 := r0.at 0 rfl
  have cr1 := r0.at 1 rfl
  have zr0 := r0.frozen 0
  have zr1 := r0.frozen 1
  have HR0 := hR.pure hT0; have HA0 := hA.pure hT0
  by_cases hm0 : mayB R A true (xf, xg, xb) = 0
  rotate_left 1
  · obtain ⟨m, hm⟩ : ∃ m, mayB R A true (xf, xg, xb) = m := ⟨_, rfl⟩
    have hmay : Hid (mayB R A (!false) (xf, xg, xb) = m) := Lib.hid hm
    have hmb : (m != 0) = true := bne_iff_ne.2 (by rw [← hm]; exact hm0)
    have hD : Hid (overB (mayB R A true (xf, xg, xb)) (forgetD R A (xf, xg, xb)) = errR m) := Lib.hid (by unfold overB; rw [if_neg hm0, hm])
    clear hm hm0
    go_enter Try.func32, Try.ntmps32
    go_wp2_with (first | (go_at_call 56; (with_reducible refine (dmay_any _ _ _ R A false (xf, xg, xb) m HR0 HA0 hLR hLA htm hmay.out).mono ?_); rintro e w1 ⟨rfl, hB1⟩; have t1 := t0.pure hB1; have x1 := x0.pure hB1; have r1 := r0.pure hB1; have HR1 := HR0.pure hB1; have HA1 := HA0.pure hB1; have hT1 := hT0.trans (hB1.mono hT0.size); clear ct0 ct1 cx0 cx1 cx2 cr0 cr1 zr0 zr1; have ct0 := t1.at 0 rfl; have ct1 := t1.at 1 rfl; have cx0 := x1.at 0 rfl; have cx1 := x1.at 1 rfl; have cx2 := x1.at 2 rfl; have cr0 := r1.at 0 rfl; have cr1 := r1.at 1 rfl; have zr0 := r1.frozen 0; have zr1 := r1.frozen 1) | (go_at_call 57; (with_reducible refine (dno_any _ m).mono ?_); rintro e w2 ⟨rfl, hB2⟩; have t2 := t1.pure hB2; have x2 := x1.pure hB2; have r2 := r1.pure hB2; have HR2 := HR1.pure hB2; have HA2 := HA1.pure hB2; have hT2 := hT1.trans (hB2.mono hT1.size); clear ct0 ct1 cx0 cx1 cx2 cr0 cr1 zr0 zr1; have ct0 := t2.at 0 rfl; have ct1 := t2.at 1 rfl; have cx0 := x2.at 0 rfl; have cx1 := x2.at 1 rfl; have cx2 := x2.at 2 rfl; have cr0 := r2.at 0 rfl; have cr1 := r2.at 1 rfl; have zr0 := r2.frozen 0; have zr1 := r2.frozen 1))
    have rr := (r2.set 0 (.slice none 0 0)).set 1 (.slice none 0 0)
    have k0 := rr.at 0 rfl; have k1 := rr.at 1 rfl
    refine bodyPost_ret (by simp [results, Try.results32, go_sem, k0, k1]; rfl) rfl ?_
    have hS := ((Upd.set (S := fun k => w.heap.size + 2 = k) (w := w2) (p := ⟨w.heap.size + 1 + 1, 0, none⟩) rfl (.slice none 0 0)).trans (Upd.set (p := ⟨w.heap.size + 1 + 1, 1, none⟩) rfl (.slice none 0 0)) (fun _ h _ => h))
    rw [hD.out]
    refine ⟨_, _, rfl, ?_, ?_, ((Upd.of_below hT2).trans (hS.mono (T := fun k => w.heap.size ≤ k) (fun k h _ => by omega)) (fun _ h _ => h)).below (Nat.le_refl _) (fun k h => h)⟩
    · exact Own.nil
    · exact Own.nil
  have hmay : Hid (mayB R A (!false) (xf, xg, xb) = 0) := Lib.hid hm0
  obtain ⟨hTab, -, -⟩ := mayB_zero hm0
  have hris := Lib.hid hTab.1.2
  rcases Classical.em (MemB R (xf, xg, xb)) with hm | hm
  rotate_left 1
  · have hn := Lib.hid hm
    have hD : Hid (overB (mayB R A true (xf, xg, xb)) (forgetD R A (xf, xg, xb)) = errR 7) := Lib.hid (by unfold overB forgetD; rw [if_pos hm0, idxB_no hm])
    clear hm hm0 hTab
    go_enter Try.func32, Try.ntmps32
    go_wp2_with (first | (go_at_call 56; (with_reducible refine (dmay_any _ _ _ R A false (xf, xg, xb) 0 HR0 HA0 hLR hLA htm hmay.out).mono ?_); rintro e w1 ⟨rfl, hB1⟩; have t1 := t0.pure hB1; have x1 := x0.pure hB1; have r1 := r0.pure hB1; have HR1 := HR0.pure hB1; have HA1 := HA0.pure hB1; have hT1 := hT0.trans (hB1.mono hT0.size); clear ct0 ct1 cx0 cx1 cx2 cr0 cr1 zr0 zr1; have ct0 := t1.at 0 rfl; have ct1 := t1.at 1 rfl; have cx0 := x1.at 0 rfl; have cx1 := x1.at 1 rfl; have cx2 := x1.at 2 rfl; have cr0 := r1.at 0 rfl; have cr1 := r1.at 1 rfl; have zr0 := r1.frozen 0; have zr1 := r1.frozen 1) | (go_at_call 19; (with_reducible refine (dat_no _ _ _ R A (xf, xg, xb) HR1 HA1 hn.out).mono ?_); rintro e w2 ⟨rfl, hB2⟩; have t2 := t1.pure hB2; have x2 := x1.pure hB2; have r2 := r1.pure hB2; have HR2 := HR1.pure hB2; have HA2 := HA1.pure hB2; have hT2 := hT1.trans (hB2.mono hT1.size); clear ct0 ct1 cx0 cx1 cx2 cr0 cr1 zr0 zr1; have ct0 := t2.at 0 rfl; have ct1 := t2.at 1 rfl; have cx0 := x2.at 0 rfl; have cx1 := x2.at 1 rfl; have cx2 := x2.at 2 rfl; have cr0 := r2.at 0 rfl; have cr1 := r2.at 1 rfl; have zr0 := r2.frozen 0; have zr1 := r2.frozen 1) | (go_at_call 57; (with_reducible refine (dno_any _ 7).mono ?_); rintro e w3 ⟨rfl, hB3⟩; have t3 := t2.pure hB3; have x3 := x2.pure hB3; have r3 := r2.pure hB3; have HR3 := HR2.pure hB3; have HA3 := HA2.pure hB3; have hT3 := hT2.trans (hB3.mono hT2.size); clear ct0 ct1 cx0 cx1 cx2 cr0 cr1 zr0 zr1; have ct0 := t3.at 0 rfl; have ct1 := t3.at 1 rfl; have cx0 := x3.at 0 rfl; have cx1 := x3.at 1 rfl; have cx2 := x3.at 2 rfl; have cr0 := r3.at 0 rfl; have cr1 := r3.at 1 rfl; have zr0 := r3.frozen 0; have zr1 := r3.frozen 1))
    have rr := (r3.set 0 (.slice none 0 0)).set 1 (.slice none 0 0)
    have k0 := rr.at 0 rfl; have k1 := rr.at 1 rfl
    refine bodyPost_ret (by simp [results, Try.results32, go_sem, k0, k1]; rfl) rfl ?_
    have hS := ((Upd.set (S := fun k => w.heap.size + 2 = k) (w := w3) (p := ⟨w.heap.size + 1 + 1, 0, none⟩) rfl (.slice none 0 0)).trans (Upd.set (p := ⟨w.heap.size + 1 + 1, 1, none⟩) rfl (.slice none 0 0)) (fun _ h _ => h))
    rw [hD.out]
    refine ⟨_, _, rfl, ?_, ?_, ((Upd.of_below hT3).trans (hS.mono (T := fun k => w.heap.size ≤ k) (fun k h _ => by omega)) (fun _ h _ => h)).below (Nat.le_refl _) (fun k h => h)⟩
    · exact Own.nil
    · exact Own.nil
  obtain ⟨k, hk, hkx⟩ := hm
  have hkx' := Lib.hid hkx
  obtain ⟨g, off, rfl⟩ := hR.addr hk
  have hk0 : (0 : Int) ≤ (k : Int) := by omega
  have hk1 : (k : Int) < (R.length : Int) := by omega
  have hkd : decide ((k : Int) < 0) = false := decide_eq_false (by omega)
  obtain ⟨y, hy0⟩ : ∃ y, answerD R[k].st = y := ⟨_, rfl⟩
  have hy := Lib.hid hy0
  have hF : forgetD R A (xf, xg, xb) = if y ≠ 0 then (withoutB R (xf, xg, xb), A, 0, 0) else errR 9 := by
    unfold forgetD; rw [idxB_yes hTab.1.2 hk hkx]; simp only [List.getD_eq_getElem?_getD, List.getElem?_eq_getElem hk, Option.getD_some, hy0]
  by_cases hyz : y = 0
  · have hyb : (y == 0) = true := by rw [hyz]; rfl
    have hD : Hid (overB (mayB R A true (xf, xg, xb)) (forgetD R A (xf, xg, xb)) = errR 9) := Lib.hid (by unfold overB; rw [if_pos hm0, hF, if_neg (fun h => h hyz)])
    clear hm0 hTab hkx hy0 hF hyz
    go_enter Try.func32, Try.ntmps32
    go_wp2_with (first | (go_at_call 56; (with_reducible refine (dmay_any _ _ _ R A false (xf, xg, xb) 0 HR0 HA0 hLR hLA htm hmay.out).mono ?_); rintro e w1 ⟨rfl, hB1⟩; have t1 := t0.pure hB1; have x1 := x0.pure hB1; have r1 := r0.pure hB1; have HR1 := HR0.pure hB1; have HA1 := HA0.pure hB1; have hT1 := hT0.trans (hB1.mono hT0.size); clear ct0 ct1 cx0 cx1 cx2 cr0 cr1 zr0 zr1; have ct0 := t1.at 0 rfl; have ct1 := t1.at 1 rfl; have cx0 := x1.at 0 rfl; have cx1 := x1.at 1 rfl; have cx2 := x1.at 2 rfl; have cr0 := r1.at 0 rfl; have cr1 := r1.at 1 rfl; have zr0 := r1.frozen 0; have zr1 := r1.frozen 1) | (go_at_call 19; (with_reducible refine (dat_yes _ _ _ R A (xf, xg, xb) k HR1 HA1 hris.out hk hkx'.out).mono ?_); rintro e w2 ⟨rfl, hB2⟩; have t2 := t1.pure hB2; have x2 := x1.pure hB2; have r2 := r1.pure hB2; have HR2 := HR1.pure hB2; have HA2 := HA1.pure hB2; have hT2 := hT1.trans (hB2.mono hT1.size); clear ct0 ct1 cx0 cx1 cx2 cr0 cr1 zr0 zr1; have ct0 := t2.at 0 rfl; have ct1 := t2.at 1 rfl; have cx0 := x2.at 0 rfl; have cx1 := x2.at 1 rfl; have cx2 := x2.at 2 rfl; have cr0 := r2.at 0 rfl; have cr1 := r2.at 1 rfl; have zr0 := r2.frozen 0; have zr1 := r2.frozen 1; obtain ⟨q0, q1, q2, q3, q4, q5, q6⟩ := br_cells HR2 hk) | (go_at_call 86; (with_reducible refine (danswer2 _ R[k] y hy.out).mono ?_); rintro e w3 ⟨rfl, hB3⟩; have t3 := t2.pure hB3; have x3 := x2.pure hB3; have r3 := r2.pure hB3; have HR3 := HR2.pure hB3; have HA3 := HA2.pure hB3; have hT3 := hT2.trans (hB3.mono hT2.size); clear ct0 ct1 cx0 cx1 cx2 cr0 cr1 zr0 zr1; have ct0 := t3.at 0 rfl; have ct1 := t3.at 1 rfl; have cx0 := x3.at 0 rfl; have cx1 := x3.at 1 rfl; have cx2 := x3.at 2 rfl; have cr0 := r3.at 0 rfl; have cr1 := r3.at 1 rfl; have zr0 := r3.frozen 0; have zr1 := r3.frozen 1) | (go_at_call 57; (with_reducible refine (dno_any _ 9).mono ?_); rintro e w4 ⟨rfl, hB4⟩; have t4 := t3.pure hB4; have x4 := x3.pure hB4; have r4 := r3.pure hB4; have HR4 := HR3.pure hB4; have HA4 := HA3.pure hB4; have hT4 := hT3.trans (hB4.mono hT3.size); clear ct0 ct1 cx0 cx1 cx2 cr0 cr1 zr0 zr1; have ct0 := t4.at 0 rfl; have ct1 := t4.at 1 rfl; have cx0 := x4.at 0 rfl; have cx1 := x4.at 1 rfl; have cx2 := x4.at 2 rfl; have cr0 := r4.at 0 rfl; have cr1 := r4.at 1 rfl; have zr0 := r4.frozen 0; have zr1 := r4.frozen 1))
    have rr := (r4.set 0 (.slice none 0 0)).set 1 (.slice none 0 0)
    have k0 := rr.at 0 rfl; have k1 := rr.at 1 rfl
    refine bodyPost_ret (by simp [results, Try.results32, go_sem, k0, k1]; rfl) rfl ?_
    have hS := ((Upd.set (S := fun k => w.heap.size + 2 = k) (w := w4) (p := ⟨w.heap.size + 1 + 1, 0, none⟩) rfl (.slice none 0 0)).trans (Upd.set (p := ⟨w.heap.size + 1 + 1, 1, none⟩) rfl (.slice none 0 0)) (fun _ h _ => h))
    rw [hD.out]
    refine ⟨_, _, rfl, ?_, ?_, ((Upd.of_below hT4).trans (hS.mono (T := fun k => w.heap.size ≤ k) (fun k h _ => by omega)) (fun _ h _ => h)).below (Nat.le_refl _) (fun k h => h)⟩
    · exact Own.nil
    · exact Own.nil
  · have hyb : (y == 0) = false := beq_eq_false_iff_ne.2 hyz
    have hD : Hid (overB (mayB R A true (xf, xg, xb)) (forgetD R A (xf, xg, xb)) = (withoutB R (xf, xg, xb), A, 0, 0)) := Lib.hid (by unfold overB; rw [if_pos hm0, hF, if_pos hyz])
    clear hm0 hTab hkx hy0 hF hyz
    go_enter Try.func32, Try.ntmps32
    go_wp2_with (first | (go_at_call 56; (with_reducible refine (dmay_any _ _ _ R A false (xf, xg, xb) 0 HR0 HA0 hLR hLA htm hmay.out).mono ?_); rintro e w1 ⟨rfl, hB1⟩; have t1 := t0.pure hB1; have x1 := x0.pure hB1; have r1 := r0.pure hB1; have HR1 := HR0.pure hB1; have HA1 := HA0.pure hB1; have hT1 := hT0.trans (hB1.mono hT0.size); clear ct0 ct1 cx0 cx1 cx2 cr0 cr1 zr0 zr1; have ct0 := t1.at 0 rfl; have ct1 := t1.at 1 rfl; have cx0 := x1.at 0 rfl; have cx1 := x1.at 1 rfl; have cx2 := x1.at 2 rfl; have cr0 := r1.at 0 rfl; have cr1 := r1.at 1 rfl; have zr0 := r1.frozen 0; have zr1 := r1.frozen 1) | (go_at_call 19; (with_reducible refine (dat_yes _ _ _ R A (xf, xg, xb) k HR1 HA1 hris.out hk hkx'.out).mono ?_); rintro e w2 ⟨rfl, hB2⟩; have t2 := t1.pure hB2; have x2 := x1.pure hB2; have r2 := r1.pure hB2; have HR2 := HR1.pure hB2; have HA2 := HA1.pure hB2; have hT2 := hT1.trans (hB2.mono hT1.size); clear ct0 ct1 cx0 cx1 cx2 cr0 cr1 zr0 zr1; have ct0 := t2.at 0 rfl; have ct1 := t2.at 1 rfl; have cx0 := x2.at 0 rfl; have cx1 := x2.at 1 rfl; have cx2 := x2.at 2 rfl; have cr0 := r2.at 0 rfl; have cr1 := r2.at 1 rfl; have zr0 := r2.frozen 0; have zr1 := r2.frozen 1; obtain ⟨q0, q1, q2, q3, q4, q5, q6⟩ := br_cells HR2 hk) | (go_at_call 86; (with_reducible refine (danswer2 _ R[k] y hy.out).mono ?_); rintro e w3 ⟨rfl, hB3⟩; have t3 := t2.pure hB3; have x3 := x2.pure hB3; have r3 := r2.pure hB3; have HR3 := HR2.pure hB3; have HA3 := HA2.pure hB3; have hT3 := hT2.trans (hB3.mono hT2.size); clear ct0 ct1 cx0 cx1 cx2 cr0 cr1 zr0 zr1; have ct0 := t3.at 0 rfl; have ct1 := t3.at 1 rfl; have cx0 := x3.at 0 rfl; have cx1 := x3.at 1 rfl; have cx2 := x3.at 2 rfl; have cr0 := r3.at 0 rfl; have cr1 := r3.at 1 rfl; have zr0 := r3.frozen 0; have zr1 := r3.frozen 1))
    go_region_held3 (fun w' => w'.cell? ⟨w.heap.size, 0, none⟩ = some (.slice (some ⟨g, off, none⟩) R.length rc) ∧ w'.cell? ⟨w.heap.size, 1, none⟩ = some (.slice aa A.length ac) ∧ w'.cell? ⟨w.heap.size + 1, 0, none⟩ = some (.int .u32 xf) ∧ w'.cell? ⟨w.heap.size + 1, 1, none⟩ = some (.string xg) ∧ w'.cell? ⟨w.heap.size + 1, 2, none⟩ = some (.string xb)) (first | exact ⟨ct0, ct1, cx0, cx1, cx2⟩ | exact ⟨m0, m1, m2, m3, m4⟩ | exact ⟨n0, n1, n2, n3, n4⟩ | exact ⟨p0, p1, p2, p3, p4⟩) (first | (go_at_call 12; refine (dcopy_any _ _ _ R A (hR.pure (below_dr hT3)) (hA.pure (below_dr hT3)) hLR hLA).mono ?_; rintro e w4 ⟨r1, a1, rfl, hO4, hP4, hB4⟩; obtain ⟨ya, yc, rfl⟩ := own_len hO4; obtain ⟨ua, uc, rfl⟩ := own_len hP4; have t4 := t3.drew.pure hB4; have x4 := x3.drew.pure hB4; have r4 := r3.drew.pure hB4; have hT4 := (below_dr hT3).trans (hB4.mono hT3.size); have m0 := t4.at 0 rfl; have m1 := t4.at 1 rfl; have m2 := x4.at 0 rfl; have m3 := x4.at 1 rfl; have m4 := x4.at 2 rfl) | (go_at_call 85; refine (dwithout_any _ _ _ R A (xf, xg, xb) (hO4.slc brEnc_len) (hP4.slc ascEnc_len) hLR).mono ?_; rintro e w5 ⟨r2, rfl, hO5, hB5⟩; obtain ⟨va, vc, rfl⟩ := own_len hO5; have t5 := t4.pure hB5; have x5 := x4.pure hB5; have r5 := r4.pure hB5; have hP5 := hP4.pure hB5; have hT5 := hT4.trans (hB5.mono hT4.size); have n0 := t5.at 0 rfl; have n1 := t5.at 1 rfl; have n2 := x5.at 0 rfl; have n3 := x5.at 1 rfl; have n4 := x5.at 2 rfl; have tq := (t5.other ⟨w.heap.size + 1 + 1, 0, none⟩ (.slice va (withoutB R (xf, xg, xb)).length vc) (by simp only; omega)).other ⟨w.heap.size + 1 + 1, 1, none⟩ (.slice ua A.length uc) (by simp only; omega); have xq := (x5.other ⟨w.heap.size + 1 + 1, 0, none⟩ (.slice va (withoutB R (xf, xg, xb)).length vc) (by simp only; omega)).other ⟨w.heap.size + 1 + 1, 1, none⟩ (.slice ua A.length uc) (by simp only; omega); have p0 := tq.at 0 rfl; have p1 := tq.at 1 rfl; have p2 := xq.at 0 rfl; have p3 := xq.at 1 rfl; have p4 := xq.at 2 rfl; have e0 := r5.at 0 rfl; have e1 := r5.at 1 rfl; have e2 := r5.frozen 0; have e3 := r5.frozen 1))
    go_wp2
    have hz3 : w.heap.size + 3 ≤ w3.heap.size := Nat.le_trans hz0 (Nat.le_trans hB1.size (Nat.le_trans hB2.size hB3.size))
    have hz4 : w.heap.size + 3 ≤ w4.heap.size := Nat.le_trans hz3 hB4.size
    have rr := (r5.set 0 (.slice va (withoutB R (xf, xg, xb)).length vc)).set 1 (.slice ua A.length uc)
    have k0 := rr.at 0 rfl; have k1 := rr.at 1 rfl
    refine bodyPost_ret (by simp [results, Try.results32, go_sem, k0, k1]; rfl) rfl ?_
    have hS := ((Upd.set (S := fun k => w.heap.size + 2 = k) (w := w5) (p := ⟨w.heap.size + 1 + 1, 0, none⟩) rfl (.slice va (withoutB R (xf, xg, xb)).length vc)).trans (Upd.set (p := ⟨w.heap.size + 1 + 1, 1, none⟩) rfl (.slice ua A.length uc)) (fun _ h _ => h))
    rw [hD.out]
    refine ⟨_, _, rfl, ?_, ?_, ((Upd.of_below hT5).trans (hS.mono (T := fun k => w.heap.size ≤ k) (fun k h _ => by omega)) (fun _ h _ => h)).below (Nat.le_refl _) (fun k h => h)⟩
    · exact ((hO5.other _ _ (fun j hj e => by have := hO5.ge hj; rw [e] at this; simp at this; omega)).other _ _ (fun j hj e => by have := hO5.ge hj; rw [e] at this; simp at this; omega)).rebase (fun j hj => by have := hO5.ge hj; omega)
    · exact ((hP5.other _ _ (fun j hj e => by have := hP5.ge hj; rw [e] at this; simp at this; omega)).other _ _ (fun j hj e => by have := hP5.ge hj; rw [e] at this; simp at this; omega)).rebase (fun j hj => by have := hP5.ge hj; simp at this; omega)
end Go.Proofs.Ytcelpincmpjhkaa
