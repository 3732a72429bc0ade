/- The closure of Start. Conditions: what on hands it. Written by gen_brM.py. -/
import Derived.Test.YtcelpincmpjhkaaBrM
import Derived.Test.YtcelpincmpjhkaaBrH
import Derived.Test.YtcelpincmpjhkaaBrN
import Derived.Deep.Cut
namespace Go.Proofs.Ytcelpincmpjhkaa
set_option linter.unusedSimpArgs false
set_option linter.unusedVariables false
open Go.RowKit


theorem active2 (w : World) (v : Value) (L : List Asc) (s : Int) (b : Bool) (hs : Slc ascEnc 5 w v L) (hL : L.length ≤ 1000000) (hb : (actA L s).isSome = b) :
    Calls Try.prog 49 #[v, .int .u64 s] w fun e w' => e = .returned (.tuple #[.agg #[.int .u32 (optX (actA L s)).1, .string (optX (actA L s)).2.1, .string (optX (actA L s)).2.2], .bool b]) ∧ Below w.heap.size w w' := by
  rw [← hb]; exact active_any w v L s hs hL


set_option maxRecDepth 100000 in
set_option maxHeartbeats 3200000 in
theorem start_do (s : Nat) (w1 : World) (tb : Nat) (rv av : Value) (R : List Brn) (A : List Asc) (sb jb rb xb1 : Nat) (se : Int) (join resume : Bool) (x : Xid) (s1 : Blk w1 sb [.int .u64 se]) (j1 : Blk w1 jb [.bool join]) (q1 : Blk w1 rb [.bool resume]) (hx1 : Blk w1 xb1 (xidC x)) (hss : sb < s) (hjs : jb < s) (hqs : rb < s) (hxs : xb1 < s) (hpre : DoPre s w1 tb rv av R A) (hr : RisesB R) (hLR : R.length ≤ 1000000) (hLA : A.length ≤ 1000000) :
    Calls Try.prog 48 #[.pointer (some ⟨tb, 0, none⟩), .pointer (some ⟨sb, 0, none⟩), .pointer (some ⟨jb, 0, none⟩), .pointer (some ⟨rb, 0, none⟩), .pointer (some ⟨xb1, 0, none⟩)] w1 (DoPost s tb (startD R A se x join resume) (fun _ => False) (fun _ => True) w1) := by
  obtain ⟨hroom, t1, hhigh, hO1, hA1, hrt, hat, hap⟩ := hpre
  have hU1 := Upd.refl (fun k => False ∨ s + 5 ≤ k) w1
  have hr' := Lib.hid hr
  obtain ⟨xf, xg, xb⟩ := x
  have x1 : Blk w1 xb1 [.int .u32 xf, .string xg, .string xb] := hx1
  clear hx1
  have c1t0 := t1.at 0 rfl
  have c1t1 := t1.at 1 rfl
  have c1x0 := x1.at 0 rfl
  have c1x1 := x1.at 1 rfl
  have c1x2 := x1.at 2 rfl
  have c1s := s1.at 0 rfl
  have c1j := j1.at 0 rfl
  have c1q := q1.at 0 rfl
  obtain ⟨aa, ac, rfl⟩ := own_len hA1
  obtain ⟨ab, hab⟩ : ∃ ab, (actA A se).isSome = ab := ⟨_, rfl⟩
  have hact := Lib.hid hab
  have hZ1 := (Below.refl w1.heap.size w1).alloc (Nat.le_refl _) (.cells #[.int .u32 0, .string ⟨#[]⟩, .string ⟨#[]⟩] 28)
  have cx0 := (t1.alloc (.cells #[.int .u32 0, .string ⟨#[]⟩, .string ⟨#[]⟩] 28)).at 1 rfl; have cx1 := (s1.alloc (.cells #[.int .u32 0, .string ⟨#[]⟩, .string ⟨#[]⟩] 28)).at 0 rfl; have htl := t1.lt; have hsl := s1.lt
  clear hab
  go_enter Try.func48, Try.ntmps48
  go_upto_region 1 with fail
  go_cut [7, 8] from 10 (fun s7 s8 w3 => s8 = .bool ab ∧ Below w1.heap.size w1 w3)
  case first =>
    go_region_held3 (fun w' => w'.cell? ⟨tb, 1, none⟩ = some (.slice aa A.length ac) ∧ w'.cell? ⟨sb, 0, none⟩ = some (.int .u64 se)) (first | exact ⟨c1t1, c1s⟩ | exact ⟨c2t1, c2s⟩ | exact ⟨cz0, cz1⟩ | exact ⟨cy0, cy1⟩ | exact ⟨cx0, cx1⟩) (first | (go_at_call 49; (with_reducible refine (active2 _ _ A se ab (hA1.drew.slc ascEnc_len) hLA hact.out).mono ?_); rintro e w2 ⟨rfl, hB2⟩; have t2 := t1.drew.pure hB2; have s2 := s1.drew.pure hB2; have c2t1 := t2.at 1 rfl; have c2s := s2.at 0 rfl; have hZ := (Below.refl w2.heap.size w2).alloc (Nat.le_refl _) (.cells #[.int .u32 0, .string ⟨#[]⟩, .string ⟨#[]⟩] 28); have hM := (Below.refl w2.heap.size w2).alloc (Nat.le_refl _) (.cells #[.int .u32 (optX (actA A se)).1, .string (optX (actA A se)).2.1, .string (optX (actA A se)).2.2] 28); have cz0 := (t2.pure hZ).at 1 rfl; have cz1 := (s2.pure hZ).at 0 rfl; have cy0 := (t2.pure hM).at 1 rfl; have cy1 := (s2.pure hM).at 0 rfl; have hE := ((below_dr (Below.refl w1.heap.size w1)).trans hB2).trans (hM.mono hB2.size)) | (go_at_call 49; (with_reducible refine (active2 _ _ A se ab ((hA1.alloc (.cells #[.int .u32 0, .string ⟨#[]⟩, .string ⟨#[]⟩] 28)).drew.slc ascEnc_len) hLA hact.out).mono ?_); rintro e w2 ⟨rfl, hB2⟩; have t2 := (t1.alloc (.cells #[.int .u32 0, .string ⟨#[]⟩, .string ⟨#[]⟩] 28)).drew.pure hB2; have s2 := (s1.alloc (.cells #[.int .u32 0, .string ⟨#[]⟩, .string ⟨#[]⟩] 28)).drew.pure hB2; have n2 := (Blk.new w1 [.int .u32 0, .string ⟨#[]⟩, .string ⟨#[]⟩] 28).drew.pure hB2; have m0 := n2.at 0 rfl; have m1 := n2.at 1 rfl; have m2 := n2.at 2 rfl; have m3 := n2.frozen 0; have m4 := n2.frozen 1; have m5 := n2.frozen 2; have c2t1 := t2.at 1 rfl; have c2s := s2.at 0 rfl; have cy0 := (((t2.other ⟨w1.heap.size, 0, none⟩ (.int .u32 (optX (actA A se)).1) (by simp only; omega)).other ⟨w1.heap.size, 1, none⟩ (.string (optX (actA A se)).2.1) (by simp only; omega)).other ⟨w1.heap.size, 2, none⟩ (.string (optX (actA A se)).2.2) (by simp only; omega)).at 1 rfl; have cy1 := (((s2.other ⟨w1.heap.size, 0, none⟩ (.int .u32 (optX (actA A se)).1) (by simp only; omega)).other ⟨w1.heap.size, 1, none⟩ (.string (optX (actA A se)).2.1) (by simp only; omega)).other ⟨w1.heap.size, 2, none⟩ (.string (optX (actA A se)).2.2) (by simp only; omega)).at 0 rfl; have hE := ((Upd.of_below (below_dr hZ1)).trans ((Upd.of_below hB2).trans (((Upd.set (S := fun k => w1.heap.size ≤ k) (p := ⟨w1.heap.size, 0, none⟩) (Nat.le_refl _) (.int .u32 (optX (actA A se)).1)).trans (Upd.set (S := fun k => w1.heap.size ≤ k) (p := ⟨w1.heap.size, 1, none⟩) (Nat.le_refl _) (.string (optX (actA A se)).2.1)) (fun _ h _ => h)).trans (Upd.set (S := fun k => w1.heap.size ≤ k) (p := ⟨w1.heap.size, 2, none⟩) (Nat.le_refl _) (.string (optX (actA A se)).2.2)) (fun _ h _ => h)) (fun _ h _ => h)) (fun _ h _ => h)).below (Nat.le_refl _) (fun k h => h)))
    all_goals (go_wp2_with fail; go_meet; exact ⟨rfl, hE⟩)
  case rest =>
    obtain ⟨rfl, hB3⟩ := hcut
    have hBc := hB3
    have tc := t1.pure hBc
    have xc := x1.pure hBc
    have sc := s1.pure hBc
    have jc := j1.pure hBc
    have qc := q1.pure hBc
    have hOc := hO1.pure hBc
    have hAc := hA1.pure hBc
    have hUc := hU1.trans (Upd.of_below hBc) (fun _ h _ => h)
    have cct0 := tc.at 0 rfl
    have cct1 := tc.at 1 rfl
    have ccx0 := xc.at 0 rfl
    have ccx1 := xc.at 1 rfl
    have ccx2 := xc.at 2 rfl
    have ccs := sc.at 0 rfl
    have ccj := jc.at 0 rfl
    have ccq := qc.at 0 rfl
    clear hB3 hZ1 cx0 cx1
    cases ab
    rotate_left 1
    · have hdum := True.intro
      have hD : Hid (startD R A se (xf, xg, xb) join resume = errR 9) := Lib.hid (by unfold startD; rw [if_pos hact.out])
      go_wp2_with (first | (go_at_call 50; (with_reducible refine (must_no _ _).mono ?_); rintro e _ ⟨rfl, rfl⟩))
      refine ⟨rfl, ?_⟩
      rw [hD.out]
      exact .inr ⟨9, by decide, rfl, rfl, hUc⟩
    have hab : ¬ (actA A se).isSome = true := by rw [hact.out]; simp
    cases join
    · cases resume
      · have hdum := True.intro
        rcases Classical.em (MemB R (xf, xg, xb)) with hm | hm
        · have hm' := Lib.hid hm
          have hD : Hid (startD R A se (xf, xg, xb) false false = errR 8) := Lib.hid (by unfold startD; obtain ⟨k, hk, he⟩ := hm; rw [if_neg hab, if_pos ⟨rfl, rfl⟩, idxB_yes hr hk he])
          clear hm hr hab
          go_wp2_with (first | (go_at_call 50; (with_reducible refine (must_ok _ _).mono ?_); rintro e _ ⟨rfl, rfl⟩) | (go_at_call 51; (with_reducible refine (tput_no _ tb rv (.slice aa A.length ac) R ⟨(xf, xg, xb), 1, 0, 0, 0⟩ tc hOc hr'.out hLR hrt (Nat.le_trans hroom hUc.size) hm'.out).mono ?_); rintro e w2 ⟨rfl, hB2⟩; have hU2 := hUc.trans (Upd.of_below hB2) (fun _ h _ => h)))
          refine ⟨rfl, ?_⟩
          rw [hD.out]
          exact .inr ⟨8, by decide, rfl, rfl, hU2⟩
        · have hm' := Lib.hid hm
          have hOc' := Lib.hid hOc
          have hne2 : ∀ k, (k = tb ∨ rv.ownBlock = some k) → False ∨ s + 5 ≤ k := fun k h => by rcases h with h | h; exact .inr (by omega); exact .inr (hOc.ge h)
          have hI := idxB_no hm
          clear hm
          by_cases hF : (startF A se (xf, xg, xb)).2 = 0
          · have hdum := True.intro
            have hD : Hid (startD R A se (xf, xg, xb) false false = (insB R (placeM R (xf, xg, xb)) (newB (xf, xg, xb) 1), (startF A se (xf, xg, xb)).1, 0, 0)) := Lib.hid (by unfold startD; rw [if_neg hab, if_pos ⟨rfl, rfl⟩, hI]; simp only [if_pos hF])
            have hF2 := Lib.hid hF
            clear hF hI hr hab
            go_wp2_with (first | (go_at_call 50; (with_reducible refine (must_ok _ _).mono ?_); rintro e _ ⟨rfl, rfl⟩) | (go_at_call 51; (with_reducible refine (tput_ok _ tb rv (.slice aa A.length ac) R ⟨(xf, xg, xb), 1, 0, 0, 0⟩ tc hOc'.out hr'.out hLR hrt (Nat.le_trans hroom hUc.size) hm'.out).mono ?_); rintro e w2 ⟨r2, rfl, t2, hO2, hrb, hUg⟩; have hU2 := hUc.trans (hUg.mono (fun k h _ => hne2 k h)) (fun _ h _ => h); have hA2 := hAc.upd hUg (fun k hk e => (by rcases e with e | e; exact hat (by rw [hk, e]); exact hap k e hk)); have x2 := xc.upd hUg (fun e => (by rcases hne2 _ e with h | h; exact h; omega)); have s2 := sc.upd hUg (fun e => (by rcases hne2 _ e with h | h; exact h; omega)); have j2 := jc.upd hUg (fun e => (by rcases hne2 _ e with h | h; exact h; omega)); have q2 := qc.upd hUg (fun e => (by rcases hne2 _ e with h | h; exact h; omega)); have hrt2 : r2.ownBlock ≠ some tb := fun e => (by rcases hrb _ e with h | h; exact hrt h; have := tc.lt; omega); have c2t0 := t2.at 0 rfl; have c2t1 := t2.at 1 rfl; have c2x0 := x2.at 0 rfl; have c2x1 := x2.at 1 rfl; have c2x2 := x2.at 2 rfl; have c2s := s2.at 0 rfl; have c2j := j2.at 0 rfl; have c2q := q2.at 0 rfl))
            clear hrt
            have hrt := hrt2
            refine wp_region_held_drew (S := (fun w' => w'.cell? ⟨sb, 0, none⟩ = some (.int .u64 se) ∧ w'.cell? ⟨xb1, 0, none⟩ = some (.int .u32 xf) ∧ w'.cell? ⟨xb1, 1, none⟩ = some (.string xg) ∧ w'.cell? ⟨xb1, 2, none⟩ = some (.string xb))) (by kernel_rfl) ?_ (fun hHeld => ?_)
            · (first | exact ⟨c2s, c2x0, c2x1, c2x2⟩ | exact ⟨cms, cmx0, cmx1, cmx2⟩ | exact ⟨cns, cnx0, cnx1, cnx2⟩)
            refine takeY 0 33 rfl rfl (v := ?_) ?_ hHeld ?_
            rotate_left 1
            · (intro w hSw; (try dsimp only at hSw); go_simp; (try with_reducible rfl))
            try simp only [Act.put, lsT, lsZ, lsS]
            refine takeY 1 34 rfl rfl (v := ?_) ?_ hHeld ?_
            rotate_left 1
            · (intro w hSw; (try dsimp only at hSw); go_simp; (try with_reducible rfl))
            try simp only [Act.put, lsT, lsZ, lsS]
            refine takeY 2 35 rfl rfl (v := ?_) ?_ hHeld ?_
            rotate_left 1
            · (intro w hSw; (try dsimp only at hSw); go_simp; (try with_reducible rfl))
            try simp only [Act.put, lsT, lsZ, lsS]
            refine takeY 3 36 rfl rfl (v := ?_) ?_ hHeld ?_
            rotate_left 1
            · (intro w hSw; (try dsimp only at hSw); go_simp; (try with_reducible rfl))
            try simp only [Act.put, lsT, lsZ, lsS]
            refine takeY 4 37 rfl rfl (v := ?_) ?_ hHeld ?_
            rotate_left 1
            · (intro w hSw; (try dsimp only at hSw); go_simp; (try with_reducible rfl))
            try simp only [Act.put, lsT, lsZ, lsS]
            refine takeY 6 39 rfl rfl (v := ?_) ?_ hHeld ?_
            rotate_left 1
            · (intro w hSw; (try dsimp only at hSw); go_simp; (try with_reducible rfl))
            try simp only [Act.put, lsT, lsZ, lsS]
            refine takeY 7 40 rfl rfl (v := ?_) ?_ hHeld ?_
            rotate_left 1
            · (intro w hSw; (try dsimp only at hSw); go_simp; (try with_reducible rfl))
            try simp only [Act.put, lsT, lsZ, lsS]
            refine wpAnyH_ready (rs := [5]) (by kernel_rfl) (by simp) ?_
            refine AllReadyH.cons rfl (fun K hK => ?_) AllReadyH.nil
            go_simp
            refine hK.out _ _ ?_ (fun hHeld => ?_)
            · (first | exact ⟨c2s, c2x0, c2x1, c2x2⟩ | exact ⟨cms, cmx0, cmx1, cmx2⟩ | exact ⟨cns, cnx0, cnx1, cnx2⟩)
            clear hK K
            try simp only [Act.put, lsT, lsZ, lsS]
            refine wpAnyH_ready (rs := [8]) (by kernel_rfl) (by simp) ?_
            refine AllReadyH.cons rfl (fun K hK => ?_) AllReadyH.nil
            go_simp
            go_at_call 53
            refine (start_any _ (.slice aa A.length ac) A se (xf, xg, xb) (hA2.drew.slc ascEnc_len) hLA).mono ?_
            rintro e wm ⟨v, rfl, hM, hBm⟩
            have tm := t2.drew.pure hBm
            have xm := x2.drew.pure hBm
            have sm := s2.drew.pure hBm
            have jm := j2.drew.pure hBm
            have qm := q2.drew.pure hBm
            have hOm := hO2.drew.pure hBm
            have hAm := hA2.drew.pure hBm
            have hUm := hU2.drew.trans (Upd.of_below hBm) (fun _ h _ => h)
            have cmt0 := tm.at 0 rfl
            have cmt1 := tm.at 1 rfl
            have cmx0 := xm.at 0 rfl
            have cmx1 := xm.at 1 rfl
            have cmx2 := xm.at 2 rfl
            have cms := sm.at 0 rfl
            have cmj := jm.at 0 rfl
            have cmq := qm.at 0 rfl
            obtain ⟨va, vc, rfl⟩ := own_len hM
            rw [hF2.out]
            refine hK.out _ _ ?_ (fun hHeld => ?_)
            · (first | exact ⟨c2s, c2x0, c2x1, c2x2⟩ | exact ⟨cms, cmx0, cmx1, cmx2⟩ | exact ⟨cns, cnx0, cnx1, cnx2⟩)
            clear hK K
            try simp only [Act.put, lsT, lsZ, lsS]
            refine takeY 9 42 rfl rfl (v := ?_) ?_ hHeld ?_
            rotate_left 1
            · (intro w hSw; (try dsimp only at hSw); go_simp; (try with_reducible rfl))
            try simp only [Act.put, lsT, lsZ, lsS]
            refine takeY 10 43 rfl rfl (v := ?_) ?_ hHeld ?_
            rotate_left 1
            · (intro w hSw; (try dsimp only at hSw); go_simp; (try with_reducible rfl))
            try simp only [Act.put, lsT, lsZ, lsS]
            refine wpAnyH_ready (rs := [11]) (by kernel_rfl) (by simp) ?_
            refine AllReadyH.cons rfl (fun K hK => ?_) AllReadyH.nil
            go_simp
            go_at_call 52
            refine (tlink_ok _ tb r2 (.slice aa A.length ac) _ tm hM).mono ?_
            rintro e wn ⟨rfl, tn, hUl⟩
            have hMs : s + 5 ≤ w2.heap.size := Nat.le_trans hroom (hU2.size)
            have hAn := (hM.upd hUl (fun k hk e => by have := hM.ge hk; have := t2.lt; simp at *; omega)).rebase (b' := s + 5) (fun k hk => by have := hM.ge hk; simp at *; omega)
            have hOn := hOm.upd hUl (fun k hk e => hrt (by rw [hk, e]))
            have xn := xm.upd hUl (by omega)
            have sn := sm.upd hUl (by omega)
            have hUn := hUm.trans (hUl.mono (T := fun k => False ∨ s + 5 ≤ k) (fun k h _ => Or.inr (by rw [h]; exact hhigh))) (fun _ h _ => h)
            have cnx0 := xn.at 0 rfl; have cnx1 := xn.at 1 rfl; have cnx2 := xn.at 2 rfl; have cns := sn.at 0 rfl
            refine hK.out _ _ ?_ (fun hHeld => ?_)
            · (first | exact ⟨c2s, c2x0, c2x1, c2x2⟩ | exact ⟨cms, cmx0, cmx1, cmx2⟩ | exact ⟨cns, cnx0, cnx1, cnx2⟩)
            clear hK K
            try simp only [Act.put, lsT, lsZ, lsS]
            refine wpAnyH_done (by kernel_rfl) ?_ _
            go_wp2
            (first | go_ret | go_ret2)
            rw [hD.out]
            exact .inl ⟨_, _, rfl, rfl, tn, hOn, hAn, hUn, trivial⟩
          · have hdum := True.intro
            have hD : Hid (startD R A se (xf, xg, xb) false false = errR 9) := Lib.hid (by unfold startD; rw [if_neg hab, if_pos ⟨rfl, rfl⟩, hI]; simp only [if_neg hF])
            obtain ⟨er, her⟩ : ∃ er, (startF A se (xf, xg, xb)).2 = er := ⟨_, rfl⟩
            have hF2 := Lib.hid her
            have hF9 : Hid (er ≠ 0) := Lib.hid (by rw [← her]; exact hF)
            clear her
            clear hF hI hr hab
            go_wp2_with (first | (go_at_call 50; (with_reducible refine (must_ok _ _).mono ?_); rintro e _ ⟨rfl, rfl⟩) | (go_at_call 51; (with_reducible refine (tput_ok _ tb rv (.slice aa A.length ac) R ⟨(xf, xg, xb), 1, 0, 0, 0⟩ tc hOc'.out hr'.out hLR hrt (Nat.le_trans hroom hUc.size) hm'.out).mono ?_); rintro e w2 ⟨r2, rfl, t2, hO2, hrb, hUg⟩; have hU2 := hUc.trans (hUg.mono (fun k h _ => hne2 k h)) (fun _ h _ => h); have hA2 := hAc.upd hUg (fun k hk e => (by rcases e with e | e; exact hat (by rw [hk, e]); exact hap k e hk)); have x2 := xc.upd hUg (fun e => (by rcases hne2 _ e with h | h; exact h; omega)); have s2 := sc.upd hUg (fun e => (by rcases hne2 _ e with h | h; exact h; omega)); have j2 := jc.upd hUg (fun e => (by rcases hne2 _ e with h | h; exact h; omega)); have q2 := qc.upd hUg (fun e => (by rcases hne2 _ e with h | h; exact h; omega)); have hrt2 : r2.ownBlock ≠ some tb := fun e => (by rcases hrb _ e with h | h; exact hrt h; have := tc.lt; omega); have c2t0 := t2.at 0 rfl; have c2t1 := t2.at 1 rfl; have c2x0 := x2.at 0 rfl; have c2x1 := x2.at 1 rfl; have c2x2 := x2.at 2 rfl; have c2s := s2.at 0 rfl; have c2j := j2.at 0 rfl; have c2q := q2.at 0 rfl))
            clear hrt
            have hrt := hrt2
            refine wp_region_held_drew (S := (fun w' => w'.cell? ⟨sb, 0, none⟩ = some (.int .u64 se) ∧ w'.cell? ⟨xb1, 0, none⟩ = some (.int .u32 xf) ∧ w'.cell? ⟨xb1, 1, none⟩ = some (.string xg) ∧ w'.cell? ⟨xb1, 2, none⟩ = some (.string xb))) (by kernel_rfl) ?_ (fun hHeld => ?_)
            · (first | exact ⟨c2s, c2x0, c2x1, c2x2⟩ | exact ⟨cms, cmx0, cmx1, cmx2⟩ | exact ⟨cns, cnx0, cnx1, cnx2⟩)
            refine takeY 0 33 rfl rfl (v := ?_) ?_ hHeld ?_
            rotate_left 1
            · (intro w hSw; (try dsimp only at hSw); go_simp; (try with_reducible rfl))
            try simp only [Act.put, lsT, lsZ, lsS]
            refine takeY 1 34 rfl rfl (v := ?_) ?_ hHeld ?_
            rotate_left 1
            · (intro w hSw; (try dsimp only at hSw); go_simp; (try with_reducible rfl))
            try simp only [Act.put, lsT, lsZ, lsS]
            refine takeY 2 35 rfl rfl (v := ?_) ?_ hHeld ?_
            rotate_left 1
            · (intro w hSw; (try dsimp only at hSw); go_simp; (try with_reducible rfl))
            try simp only [Act.put, lsT, lsZ, lsS]
            refine takeY 3 36 rfl rfl (v := ?_) ?_ hHeld ?_
            rotate_left 1
            · (intro w hSw; (try dsimp only at hSw); go_simp; (try with_reducible rfl))
            try simp only [Act.put, lsT, lsZ, lsS]
            refine takeY 4 37 rfl rfl (v := ?_) ?_ hHeld ?_
            rotate_left 1
            · (intro w hSw; (try dsimp only at hSw); go_simp; (try with_reducible rfl))
            try simp only [Act.put, lsT, lsZ, lsS]
            refine takeY 6 39 rfl rfl (v := ?_) ?_ hHeld ?_
            rotate_left 1
            · (intro w hSw; (try dsimp only at hSw); go_simp; (try with_reducible rfl))
            try simp only [Act.put, lsT, lsZ, lsS]
            refine takeY 7 40 rfl rfl (v := ?_) ?_ hHeld ?_
            rotate_left 1
            · (intro w hSw; (try dsimp only at hSw); go_simp; (try with_reducible rfl))
            try simp only [Act.put, lsT, lsZ, lsS]
            refine wpAnyH_ready (rs := [5]) (by kernel_rfl) (by simp) ?_
            refine AllReadyH.cons rfl (fun K hK => ?_) AllReadyH.nil
            go_simp
            refine hK.out _ _ ?_ (fun hHeld => ?_)
            · (first | exact ⟨c2s, c2x0, c2x1, c2x2⟩ | exact ⟨cms, cmx0, cmx1, cmx2⟩ | exact ⟨cns, cnx0, cnx1, cnx2⟩)
            clear hK K
            try simp only [Act.put, lsT, lsZ, lsS]
            refine wpAnyH_ready (rs := [8]) (by kernel_rfl) (by simp) ?_
            refine AllReadyH.cons rfl (fun K hK => ?_) AllReadyH.nil
            go_simp
            go_at_call 53
            refine (start_any _ (.slice aa A.length ac) A se (xf, xg, xb) (hA2.drew.slc ascEnc_len) hLA).mono ?_
            rintro e wm ⟨v, rfl, hM, hBm⟩
            have tm := t2.drew.pure hBm
            have xm := x2.drew.pure hBm
            have sm := s2.drew.pure hBm
            have jm := j2.drew.pure hBm
            have qm := q2.drew.pure hBm
            have hOm := hO2.drew.pure hBm
            have hAm := hA2.drew.pure hBm
            have hUm := hU2.drew.trans (Upd.of_below hBm) (fun _ h _ => h)
            have cmt0 := tm.at 0 rfl
            have cmt1 := tm.at 1 rfl
            have cmx0 := xm.at 0 rfl
            have cmx1 := xm.at 1 rfl
            have cmx2 := xm.at 2 rfl
            have cms := sm.at 0 rfl
            have cmj := jm.at 0 rfl
            have cmq := qm.at 0 rfl
            obtain ⟨va, vc, rfl⟩ := own_len hM
            rw [hF2.out]
            refine hK.out _ _ ?_ (fun hHeld => ?_)
            · (first | exact ⟨c2s, c2x0, c2x1, c2x2⟩ | exact ⟨cms, cmx0, cmx1, cmx2⟩ | exact ⟨cns, cnx0, cnx1, cnx2⟩)
            clear hK K
            try simp only [Act.put, lsT, lsZ, lsS]
            refine takeY 9 42 rfl rfl (v := ?_) ?_ hHeld ?_
            rotate_left 1
            · (intro w hSw; (try dsimp only at hSw); go_simp; (try with_reducible rfl))
            try simp only [Act.put, lsT, lsZ, lsS]
            refine takeY 10 43 rfl rfl (v := ?_) ?_ hHeld ?_
            rotate_left 1
            · (intro w hSw; (try dsimp only at hSw); go_simp; (try with_reducible rfl))
            try simp only [Act.put, lsT, lsZ, lsS]
            refine wpAnyH_ready (rs := [11]) (by kernel_rfl) (by simp) ?_
            refine AllReadyH.cons rfl (fun K hK => ?_) AllReadyH.nil
            go_simp
            go_at_call 52
            refine (tlink_no _ tb _ _ hF9.out).mono ?_
            rintro e wn ⟨rfl, rfl⟩
            refine ⟨rfl, ?_⟩
            rw [hD.out]
            exact .inr ⟨9, by decide, rfl, rfl, hUm⟩
      · have hdum := True.intro
        rcases Classical.em (MemB R (xf, xg, xb)) with hm | hm
        rotate_left 1
        · have hn := Lib.hid hm
          have hD : Hid (startD R A se (xf, xg, xb) false true = errR 7) := Lib.hid (by unfold startD; rw [if_neg hab, if_neg (by simp), idxB_no hm])
          clear hm hr hab
          go_wp2_with (first | (go_at_call 50; (with_reducible refine (must_ok _ _).mono ?_); rintro e _ ⟨rfl, rfl⟩) | (go_at_call 54; (with_reducible refine (trow_no _ tb rv (.slice aa A.length ac) R (xf, xg, xb) tc (hOc.slc brEnc_len) hr'.out hLR hn.out).mono ?_); rintro e w2 ⟨rfl, hB2⟩; have hU2 := hUc.trans (Upd.of_below hB2) (fun _ h _ => h)))
          refine ⟨rfl, ?_⟩
          rw [hD.out]
          exact .inr ⟨7, by decide, rfl, rfl, hU2⟩
        obtain ⟨k, hk, hex0⟩ := hm
        obtain ⟨g, cap, rfl, hg1, hg2⟩ := hOc.shape (fun e => by rw [e] at hk; simp at hk)
        have hI := idxB_yes hr hk hex0
        have hex := Lib.hid hex0
        clear hr hex0
        by_cases h1 : R[k].st = 1
        rotate_left 1
        · have hsb : (R[k].st == 1) = false := beq_eq_false_iff_ne.2 h1
          have hD : Hid (startD R A se (xf, xg, xb) false true = errR 9) := Lib.hid (by unfold startD; rw [if_neg hab, if_neg (by simp), hI]; simp only [List.getD_eq_getElem?_getD, List.getElem?_eq_getElem hk, Option.getD_some]; rw [if_pos h1])
          clear h1 hI hab
          go_wp2_with (first | (go_at_call 50; (with_reducible refine (must_ok _ _).mono ?_); rintro e _ ⟨rfl, rfl⟩) | (go_at_call 54; (with_reducible refine (trow_yes _ tb g R.length cap (.slice aa A.length ac) R (xf, xg, xb) k tc (hOc.slc brEnc_len) hr'.out hLR hk hex.out).mono ?_); rintro e w2 ⟨rfl, hB2⟩; have t2 := tc.pure hB2; have x2 := xc.pure hB2; have s2 := sc.pure hB2; have j2 := jc.pure hB2; have q2 := qc.pure hB2; have hO2 := hOc.pure hB2; have hA2 := hAc.pure hB2; have hU2 := hUc.trans (Upd.of_below hB2) (fun _ h _ => h); have c2t0 := t2.at 0 rfl; have c2t1 := t2.at 1 rfl; have c2x0 := x2.at 0 rfl; have c2x1 := x2.at 1 rfl; have c2x2 := x2.at 2 rfl; have c2s := s2.at 0 rfl; have c2j := j2.at 0 rfl; have c2q := q2.at 0 rfl; obtain ⟨r20, r21, r22, r23, r24, r25, r26⟩ := br_cells (hO2.slc brEnc_len) hk; simp only [Nat.zero_add] at r20 r21 r22 r23 r24 r25 r26) | (go_at_call 50; (with_reducible refine (must_no _ _).mono ?_); rintro e _ ⟨rfl, rfl⟩))
          refine ⟨rfl, ?_⟩
          rw [hD.out]
          exact .inr ⟨9, by decide, rfl, rfl, hU2⟩
        have hsb : (R[k].st == 1) = true := by rw [h1]; rfl
        by_cases h3 : R[k].why = 0
        rotate_left 1
        · have hwb : (R[k].why != 0) = true := bne_iff_ne.2 h3
          have hD : Hid (startD R A se (xf, xg, xb) false true = (R, A, R[k].why, 0)) := Lib.hid (by unfold startD; rw [if_neg hab, if_neg (by simp), hI]; simp only [List.getD_eq_getElem?_getD, List.getElem?_eq_getElem hk, Option.getD_some]; rw [if_neg (fun h => h h1), if_pos h3])
          clear h1 h3 hI hab
          go_wp2_with (first | (go_at_call 50; (with_reducible refine (must_ok _ _).mono ?_); rintro e _ ⟨rfl, rfl⟩) | (go_at_call 54; (with_reducible refine (trow_yes _ tb g R.length cap (.slice aa A.length ac) R (xf, xg, xb) k tc (hOc.slc brEnc_len) hr'.out hLR hk hex.out).mono ?_); rintro e w2 ⟨rfl, hB2⟩; have t2 := tc.pure hB2; have x2 := xc.pure hB2; have s2 := sc.pure hB2; have j2 := jc.pure hB2; have q2 := qc.pure hB2; have hO2 := hOc.pure hB2; have hA2 := hAc.pure hB2; have hU2 := hUc.trans (Upd.of_below hB2) (fun _ h _ => h); have c2t0 := t2.at 0 rfl; have c2t1 := t2.at 1 rfl; have c2x0 := x2.at 0 rfl; have c2x1 := x2.at 1 rfl; have c2x2 := x2.at 2 rfl; have c2s := s2.at 0 rfl; have c2j := j2.at 0 rfl; have c2q := q2.at 0 rfl; obtain ⟨r20, r21, r22, r23, r24, r25, r26⟩ := br_cells (hO2.slc brEnc_len) hk; simp only [Nat.zero_add] at r20 r21 r22 r23 r24 r25 r26))
          (first | go_ret | go_ret2)
          rw [hD.out]
          exact .inl ⟨_, _, rfl, rfl, t2, hO2, hA2, hU2, trivial⟩
        have hwb : (R[k].why != 0) = false := by rw [h3]; rfl
        by_cases hF : (resumeF A se (xf, xg, xb)).2 = 0
        · have hdum := True.intro
          have hD : Hid (startD R A se (xf, xg, xb) false true = (R, (resumeF A se (xf, xg, xb)).1, 0, 0)) := Lib.hid (by unfold startD; rw [if_neg hab, if_neg (by simp), hI]; simp only [List.getD_eq_getElem?_getD, List.getElem?_eq_getElem hk, Option.getD_some]; rw [if_neg (fun h => h h1), if_neg (fun h => h h3)]; simp only [if_true, if_pos hF])
          have hF2 := Lib.hid hF
          clear h1 h3 hI hab hF
          go_wp2_with (first | (go_at_call 50; (with_reducible refine (must_ok _ _).mono ?_); rintro e _ ⟨rfl, rfl⟩) | (go_at_call 54; (with_reducible refine (trow_yes _ tb g R.length cap (.slice aa A.length ac) R (xf, xg, xb) k tc (hOc.slc brEnc_len) hr'.out hLR hk hex.out).mono ?_); rintro e w2 ⟨rfl, hB2⟩; have t2 := tc.pure hB2; have x2 := xc.pure hB2; have s2 := sc.pure hB2; have j2 := jc.pure hB2; have q2 := qc.pure hB2; have hO2 := hOc.pure hB2; have hA2 := hAc.pure hB2; have hU2 := hUc.trans (Upd.of_below hB2) (fun _ h _ => h); have c2t0 := t2.at 0 rfl; have c2t1 := t2.at 1 rfl; have c2x0 := x2.at 0 rfl; have c2x1 := x2.at 1 rfl; have c2x2 := x2.at 2 rfl; have c2s := s2.at 0 rfl; have c2j := j2.at 0 rfl; have c2q := q2.at 0 rfl; obtain ⟨r20, r21, r22, r23, r24, r25, r26⟩ := br_cells (hO2.slc brEnc_len) hk; simp only [Nat.zero_add] at r20 r21 r22 r23 r24 r25 r26))
          refine wp_region_held_drew (S := (fun w' => w'.cell? ⟨sb, 0, none⟩ = some (.int .u64 se) ∧ w'.cell? ⟨xb1, 0, none⟩ = some (.int .u32 xf) ∧ w'.cell? ⟨xb1, 1, none⟩ = some (.string xg) ∧ w'.cell? ⟨xb1, 2, none⟩ = some (.string xb))) (by kernel_rfl) ?_ (fun hHeld => ?_)
          · (first | exact ⟨c2s, c2x0, c2x1, c2x2⟩ | exact ⟨cms, cmx0, cmx1, cmx2⟩ | exact ⟨cns, cnx0, cnx1, cnx2⟩)
          refine takeY 0 78 rfl rfl (v := ?_) ?_ hHeld ?_
          rotate_left 1
          · (intro w hSw; (try dsimp only at hSw); go_simp; (try with_reducible rfl))
          try simp only [Act.put, lsT, lsZ, lsS]
          refine takeY 1 79 rfl rfl (v := ?_) ?_ hHeld ?_
          rotate_left 1
          · (intro w hSw; (try dsimp only at hSw); go_simp; (try with_reducible rfl))
          try simp only [Act.put, lsT, lsZ, lsS]
          refine takeY 2 80 rfl rfl (v := ?_) ?_ hHeld ?_
          rotate_left 1
          · (intro w hSw; (try dsimp only at hSw); go_simp; (try with_reducible rfl))
          try simp only [Act.put, lsT, lsZ, lsS]
          refine takeY 3 81 rfl rfl (v := ?_) ?_ hHeld ?_
          rotate_left 1
          · (intro w hSw; (try dsimp only at hSw); go_simp; (try with_reducible rfl))
          try simp only [Act.put, lsT, lsZ, lsS]
          refine takeY 4 82 rfl rfl (v := ?_) ?_ hHeld ?_
          rotate_left 1
          · (intro w hSw; (try dsimp only at hSw); go_simp; (try with_reducible rfl))
          try simp only [Act.put, lsT, lsZ, lsS]
          refine takeY 6 84 rfl rfl (v := ?_) ?_ hHeld ?_
          rotate_left 1
          · (intro w hSw; (try dsimp only at hSw); go_simp; (try with_reducible rfl))
          try simp only [Act.put, lsT, lsZ, lsS]
          refine takeY 7 85 rfl rfl (v := ?_) ?_ hHeld ?_
          rotate_left 1
          · (intro w hSw; (try dsimp only at hSw); go_simp; (try with_reducible rfl))
          try simp only [Act.put, lsT, lsZ, lsS]
          refine wpAnyH_ready (rs := [5]) (by kernel_rfl) (by simp) ?_
          refine AllReadyH.cons rfl (fun K hK => ?_) AllReadyH.nil
          go_simp
          refine hK.out _ _ ?_ (fun hHeld => ?_)
          · (first | exact ⟨c2s, c2x0, c2x1, c2x2⟩ | exact ⟨cms, cmx0, cmx1, cmx2⟩ | exact ⟨cns, cnx0, cnx1, cnx2⟩)
          clear hK K
          try simp only [Act.put, lsT, lsZ, lsS]
          refine wpAnyH_ready (rs := [8]) (by kernel_rfl) (by simp) ?_
          refine AllReadyH.cons rfl (fun K hK => ?_) AllReadyH.nil
          go_simp
          go_at_call 55
          refine (resume_any _ (.slice aa A.length ac) A se (xf, xg, xb) (hA2.drew.slc ascEnc_len) hLA).mono ?_
          rintro e wm ⟨v, rfl, hM, hBm⟩
          have tm := t2.drew.pure hBm
          have xm := x2.drew.pure hBm
          have sm := s2.drew.pure hBm
          have jm := j2.drew.pure hBm
          have qm := q2.drew.pure hBm
          have hOm := hO2.drew.pure hBm
          have hAm := hA2.drew.pure hBm
          have hUm := hU2.drew.trans (Upd.of_below hBm) (fun _ h _ => h)
          have cmt0 := tm.at 0 rfl
          have cmt1 := tm.at 1 rfl
          have cmx0 := xm.at 0 rfl
          have cmx1 := xm.at 1 rfl
          have cmx2 := xm.at 2 rfl
          have cms := sm.at 0 rfl
          have cmj := jm.at 0 rfl
          have cmq := qm.at 0 rfl
          obtain ⟨va, vc, rfl⟩ := own_len hM
          rw [hF2.out]
          refine hK.out _ _ ?_ (fun hHeld => ?_)
          · (first | exact ⟨c2s, c2x0, c2x1, c2x2⟩ | exact ⟨cms, cmx0, cmx1, cmx2⟩ | exact ⟨cns, cnx0, cnx1, cnx2⟩)
          clear hK K
          try simp only [Act.put, lsT, lsZ, lsS]
          refine takeY 9 87 rfl rfl (v := ?_) ?_ hHeld ?_
          rotate_left 1
          · (intro w hSw; (try dsimp only at hSw); go_simp; (try with_reducible rfl))
          try simp only [Act.put, lsT, lsZ, lsS]
          refine takeY 10 88 rfl rfl (v := ?_) ?_ hHeld ?_
          rotate_left 1
          · (intro w hSw; (try dsimp only at hSw); go_simp; (try with_reducible rfl))
          try simp only [Act.put, lsT, lsZ, lsS]
          refine wpAnyH_ready (rs := [11]) (by kernel_rfl) (by simp) ?_
          refine AllReadyH.cons rfl (fun K hK => ?_) AllReadyH.nil
          go_simp
          go_at_call 52
          refine (tlink_ok _ tb (.slice (some ⟨g, 0, none⟩) R.length cap) (.slice aa A.length ac) _ tm hM).mono ?_
          rintro e wn ⟨rfl, tn, hUl⟩
          have hMs : s + 5 ≤ w2.heap.size := Nat.le_trans hroom (hU2.size)
          have hAn := (hM.upd hUl (fun k hk e => by have := hM.ge hk; have := t2.lt; simp at *; omega)).rebase (b' := s + 5) (fun k hk => by have := hM.ge hk; simp at *; omega)
          have hOn := hOm.upd hUl (fun k hk e => hrt (by rw [hk, e]))
          have xn := xm.upd hUl (by omega)
          have sn := sm.upd hUl (by omega)
          have hUn := hUm.trans (hUl.mono (T := fun k => False ∨ s + 5 ≤ k) (fun k h _ => Or.inr (by rw [h]; exact hhigh))) (fun _ h _ => h)
          have cnx0 := xn.at 0 rfl; have cnx1 := xn.at 1 rfl; have cnx2 := xn.at 2 rfl; have cns := sn.at 0 rfl
          refine hK.out _ _ ?_ (fun hHeld => ?_)
          · (first | exact ⟨c2s, c2x0, c2x1, c2x2⟩ | exact ⟨cms, cmx0, cmx1, cmx2⟩ | exact ⟨cns, cnx0, cnx1, cnx2⟩)
          clear hK K
          try simp only [Act.put, lsT, lsZ, lsS]
          refine wpAnyH_done (by kernel_rfl) ?_ _
          go_wp2
          (first | go_ret | go_ret2)
          rw [hD.out]
          exact .inl ⟨_, _, rfl, rfl, tn, hOn, hAn, hUn, trivial⟩
        · have hdum := True.intro
          have hD : Hid (startD R A se (xf, xg, xb) false true = errR 9) := Lib.hid (by unfold startD; rw [if_neg hab, if_neg (by simp), hI]; simp only [List.getD_eq_getElem?_getD, List.getElem?_eq_getElem hk, Option.getD_some]; rw [if_neg (fun h => h h1), if_neg (fun h => h h3)]; simp only [if_true, if_neg hF])
          obtain ⟨er, her⟩ : ∃ er, (resumeF A se (xf, xg, xb)).2 = er := ⟨_, rfl⟩
          have hF2 := Lib.hid her
          have hF9 : Hid (er ≠ 0) := Lib.hid (by rw [← her]; exact hF)
          clear her
          clear h1 h3 hI hab hF
          go_wp2_with (first | (go_at_call 50; (with_reducible refine (must_ok _ _).mono ?_); rintro e _ ⟨rfl, rfl⟩) | (go_at_call 54; (with_reducible refine (trow_yes _ tb g R.length cap (.slice aa A.length ac) R (xf, xg, xb) k tc (hOc.slc brEnc_len) hr'.out hLR hk hex.out).mono ?_); rintro e w2 ⟨rfl, hB2⟩; have t2 := tc.pure hB2; have x2 := xc.pure hB2; have s2 := sc.pure hB2; have j2 := jc.pure hB2; have q2 := qc.pure hB2; have hO2 := hOc.pure hB2; have hA2 := hAc.pure hB2; have hU2 := hUc.trans (Upd.of_below hB2) (fun _ h _ => h); have c2t0 := t2.at 0 rfl; have c2t1 := t2.at 1 rfl; have c2x0 := x2.at 0 rfl; have c2x1 := x2.at 1 rfl; have c2x2 := x2.at 2 rfl; have c2s := s2.at 0 rfl; have c2j := j2.at 0 rfl; have c2q := q2.at 0 rfl; obtain ⟨r20, r21, r22, r23, r24, r25, r26⟩ := br_cells (hO2.slc brEnc_len) hk; simp only [Nat.zero_add] at r20 r21 r22 r23 r24 r25 r26))
          refine wp_region_held_drew (S := (fun w' => w'.cell? ⟨sb, 0, none⟩ = some (.int .u64 se) ∧ w'.cell? ⟨xb1, 0, none⟩ = some (.int .u32 xf) ∧ w'.cell? ⟨xb1, 1, none⟩ = some (.string xg) ∧ w'.cell? ⟨xb1, 2, none⟩ = some (.string xb))) (by kernel_rfl) ?_ (fun hHeld => ?_)
          · (first | exact ⟨c2s, c2x0, c2x1, c2x2⟩ | exact ⟨cms, cmx0, cmx1, cmx2⟩ | exact ⟨cns, cnx0, cnx1, cnx2⟩)
          refine takeY 0 78 rfl rfl (v := ?_) ?_ hHeld ?_
          rotate_left 1
          · (intro w hSw; (try dsimp only at hSw); go_simp; (try with_reducible rfl))
          try simp only [Act.put, lsT, lsZ, lsS]
          refine takeY 1 79 rfl rfl (v := ?_) ?_ hHeld ?_
          rotate_left 1
          · (intro w hSw; (try dsimp only at hSw); go_simp; (try with_reducible rfl))
          try simp only [Act.put, lsT, lsZ, lsS]
          refine takeY 2 80 rfl rfl (v := ?_) ?_ hHeld ?_
          rotate_left 1
          · (intro w hSw; (try dsimp only at hSw); go_simp; (try with_reducible rfl))
          try simp only [Act.put, lsT, lsZ, lsS]
          refine takeY 3 81 rfl rfl (v := ?_) ?_ hHeld ?_
          rotate_left 1
          · (intro w hSw; (try dsimp only at hSw); go_simp; (try with_reducible rfl))
          try simp only [Act.put, lsT, lsZ, lsS]
          refine takeY 4 82 rfl rfl (v := ?_) ?_ hHeld ?_
          rotate_left 1
          · (intro w hSw; (try dsimp only at hSw); go_simp; (try with_reducible rfl))
          try simp only [Act.put, lsT, lsZ, lsS]
          refine takeY 6 84 rfl rfl (v := ?_) ?_ hHeld ?_
          rotate_left 1
          · (intro w hSw; (try dsimp only at hSw); go_simp; (try with_reducible rfl))
          try simp only [Act.put, lsT, lsZ, lsS]
          refine takeY 7 85 rfl rfl (v := ?_) ?_ hHeld ?_
          rotate_left 1
          · (intro w hSw; (try dsimp only at hSw); go_simp; (try with_reducible rfl))
          try simp only [Act.put, lsT, lsZ, lsS]
          refine wpAnyH_ready (rs := [5]) (by kernel_rfl) (by simp) ?_
          refine AllReadyH.cons rfl (fun K hK => ?_) AllReadyH.nil
          go_simp
          refine hK.out _ _ ?_ (fun hHeld => ?_)
          · (first | exact ⟨c2s, c2x0, c2x1, c2x2⟩ | exact ⟨cms, cmx0, cmx1, cmx2⟩ | exact ⟨cns, cnx0, cnx1, cnx2⟩)
          clear hK K
          try simp only [Act.put, lsT, lsZ, lsS]
          refine wpAnyH_ready (rs := [8]) (by kernel_rfl) (by simp) ?_
          refine AllReadyH.cons rfl (fun K hK => ?_) AllReadyH.nil
          go_simp
          go_at_call 55
          refine (resume_any _ (.slice aa A.length ac) A se (xf, xg, xb) (hA2.drew.slc ascEnc_len) hLA).mono ?_
          rintro e wm ⟨v, rfl, hM, hBm⟩
          have tm := t2.drew.pure hBm
          have xm := x2.drew.pure hBm
          have sm := s2.drew.pure hBm
          have jm := j2.drew.pure hBm
          have qm := q2.drew.pure hBm
          have hOm := hO2.drew.pure hBm
          have hAm := hA2.drew.pure hBm
          have hUm := hU2.drew.trans (Upd.of_below hBm) (fun _ h _ => h)
          have cmt0 := tm.at 0 rfl
          have cmt1 := tm.at 1 rfl
          have cmx0 := xm.at 0 rfl
          have cmx1 := xm.at 1 rfl
          have cmx2 := xm.at 2 rfl
          have cms := sm.at 0 rfl
          have cmj := jm.at 0 rfl
          have cmq := qm.at 0 rfl
          obtain ⟨va, vc, rfl⟩ := own_len hM
          rw [hF2.out]
          refine hK.out _ _ ?_ (fun hHeld => ?_)
          · (first | exact ⟨c2s, c2x0, c2x1, c2x2⟩ | exact ⟨cms, cmx0, cmx1, cmx2⟩ | exact ⟨cns, cnx0, cnx1, cnx2⟩)
          clear hK K
          try simp only [Act.put, lsT, lsZ, lsS]
          refine takeY 9 87 rfl rfl (v := ?_) ?_ hHeld ?_
          rotate_left 1
          · (intro w hSw; (try dsimp only at hSw); go_simp; (try with_reducible rfl))
          try simp only [Act.put, lsT, lsZ, lsS]
          refine takeY 10 88 rfl rfl (v := ?_) ?_ hHeld ?_
          rotate_left 1
          · (intro w hSw; (try dsimp only at hSw); go_simp; (try with_reducible rfl))
          try simp only [Act.put, lsT, lsZ, lsS]
          refine wpAnyH_ready (rs := [11]) (by kernel_rfl) (by simp) ?_
          refine AllReadyH.cons rfl (fun K hK => ?_) AllReadyH.nil
          go_simp
          go_at_call 52
          refine (tlink_no _ tb _ _ hF9.out).mono ?_
          rintro e wn ⟨rfl, rfl⟩
          refine ⟨rfl, ?_⟩
          rw [hD.out]
          exact .inr ⟨9, by decide, rfl, rfl, hUm⟩
    · cases resume
      · have hdum := True.intro
        rcases Classical.em (MemB R (xf, xg, xb)) with hm | hm
        rotate_left 1
        · have hn := Lib.hid hm
          have hD : Hid (startD R A se (xf, xg, xb) true false = errR 7) := Lib.hid (by unfold startD; rw [if_neg hab, if_neg (by simp), idxB_no hm])
          clear hm hr hab
          go_wp2_with (first | (go_at_call 50; (with_reducible refine (must_ok _ _).mono ?_); rintro e _ ⟨rfl, rfl⟩) | (go_at_call 54; (with_reducible refine (trow_no _ tb rv (.slice aa A.length ac) R (xf, xg, xb) tc (hOc.slc brEnc_len) hr'.out hLR hn.out).mono ?_); rintro e w2 ⟨rfl, hB2⟩; have hU2 := hUc.trans (Upd.of_below hB2) (fun _ h _ => h)))
          refine ⟨rfl, ?_⟩
          rw [hD.out]
          exact .inr ⟨7, by decide, rfl, rfl, hU2⟩
        obtain ⟨k, hk, hex0⟩ := hm
        obtain ⟨g, cap, rfl, hg1, hg2⟩ := hOc.shape (fun e => by rw [e] at hk; simp at hk)
        have hI := idxB_yes hr hk hex0
        have hex := Lib.hid hex0
        clear hr hex0
        by_cases h1 : R[k].st = 1
        rotate_left 1
        · have hsb : (R[k].st == 1) = false := beq_eq_false_iff_ne.2 h1
          have hD : Hid (startD R A se (xf, xg, xb) true false = errR 9) := Lib.hid (by unfold startD; rw [if_neg hab, if_neg (by simp), hI]; simp only [List.getD_eq_getElem?_getD, List.getElem?_eq_getElem hk, Option.getD_some]; rw [if_pos h1])
          clear h1 hI hab
          go_wp2_with (first | (go_at_call 50; (with_reducible refine (must_ok _ _).mono ?_); rintro e _ ⟨rfl, rfl⟩) | (go_at_call 54; (with_reducible refine (trow_yes _ tb g R.length cap (.slice aa A.length ac) R (xf, xg, xb) k tc (hOc.slc brEnc_len) hr'.out hLR hk hex.out).mono ?_); rintro e w2 ⟨rfl, hB2⟩; have t2 := tc.pure hB2; have x2 := xc.pure hB2; have s2 := sc.pure hB2; have j2 := jc.pure hB2; have q2 := qc.pure hB2; have hO2 := hOc.pure hB2; have hA2 := hAc.pure hB2; have hU2 := hUc.trans (Upd.of_below hB2) (fun _ h _ => h); have c2t0 := t2.at 0 rfl; have c2t1 := t2.at 1 rfl; have c2x0 := x2.at 0 rfl; have c2x1 := x2.at 1 rfl; have c2x2 := x2.at 2 rfl; have c2s := s2.at 0 rfl; have c2j := j2.at 0 rfl; have c2q := q2.at 0 rfl; obtain ⟨r20, r21, r22, r23, r24, r25, r26⟩ := br_cells (hO2.slc brEnc_len) hk; simp only [Nat.zero_add] at r20 r21 r22 r23 r24 r25 r26) | (go_at_call 50; (with_reducible refine (must_no _ _).mono ?_); rintro e _ ⟨rfl, rfl⟩))
          refine ⟨rfl, ?_⟩
          rw [hD.out]
          exact .inr ⟨9, by decide, rfl, rfl, hU2⟩
        have hsb : (R[k].st == 1) = true := by rw [h1]; rfl
        by_cases h3 : R[k].why = 0
        rotate_left 1
        · have hwb : (R[k].why != 0) = true := bne_iff_ne.2 h3
          have hD : Hid (startD R A se (xf, xg, xb) true false = (R, A, R[k].why, 0)) := Lib.hid (by unfold startD; rw [if_neg hab, if_neg (by simp), hI]; simp only [List.getD_eq_getElem?_getD, List.getElem?_eq_getElem hk, Option.getD_some]; rw [if_neg (fun h => h h1), if_pos h3])
          clear h1 h3 hI hab
          go_wp2_with (first | (go_at_call 50; (with_reducible refine (must_ok _ _).mono ?_); rintro e _ ⟨rfl, rfl⟩) | (go_at_call 54; (with_reducible refine (trow_yes _ tb g R.length cap (.slice aa A.length ac) R (xf, xg, xb) k tc (hOc.slc brEnc_len) hr'.out hLR hk hex.out).mono ?_); rintro e w2 ⟨rfl, hB2⟩; have t2 := tc.pure hB2; have x2 := xc.pure hB2; have s2 := sc.pure hB2; have j2 := jc.pure hB2; have q2 := qc.pure hB2; have hO2 := hOc.pure hB2; have hA2 := hAc.pure hB2; have hU2 := hUc.trans (Upd.of_below hB2) (fun _ h _ => h); have c2t0 := t2.at 0 rfl; have c2t1 := t2.at 1 rfl; have c2x0 := x2.at 0 rfl; have c2x1 := x2.at 1 rfl; have c2x2 := x2.at 2 rfl; have c2s := s2.at 0 rfl; have c2j := j2.at 0 rfl; have c2q := q2.at 0 rfl; obtain ⟨r20, r21, r22, r23, r24, r25, r26⟩ := br_cells (hO2.slc brEnc_len) hk; simp only [Nat.zero_add] at r20 r21 r22 r23 r24 r25 r26))
          (first | go_ret | go_ret2)
          rw [hD.out]
          exact .inl ⟨_, _, rfl, rfl, t2, hO2, hA2, hU2, trivial⟩
        have hwb : (R[k].why != 0) = false := by rw [h3]; rfl
        by_cases hF : (startF A se (xf, xg, xb)).2 = 0
        · have hdum := True.intro
          have hD : Hid (startD R A se (xf, xg, xb) true false = (R, (startF A se (xf, xg, xb)).1, 0, 0)) := Lib.hid (by unfold startD; rw [if_neg hab, if_neg (by simp), hI]; simp only [List.getD_eq_getElem?_getD, List.getElem?_eq_getElem hk, Option.getD_some]; rw [if_neg (fun h => h h1), if_neg (fun h => h h3)]; simp only [Bool.false_eq_true, if_false, if_pos hF])
          have hF2 := Lib.hid hF
          clear h1 h3 hI hab hF
          go_wp2_with (first | (go_at_call 50; (with_reducible refine (must_ok _ _).mono ?_); rintro e _ ⟨rfl, rfl⟩) | (go_at_call 54; (with_reducible refine (trow_yes _ tb g R.length cap (.slice aa A.length ac) R (xf, xg, xb) k tc (hOc.slc brEnc_len) hr'.out hLR hk hex.out).mono ?_); rintro e w2 ⟨rfl, hB2⟩; have t2 := tc.pure hB2; have x2 := xc.pure hB2; have s2 := sc.pure hB2; have j2 := jc.pure hB2; have q2 := qc.pure hB2; have hO2 := hOc.pure hB2; have hA2 := hAc.pure hB2; have hU2 := hUc.trans (Upd.of_below hB2) (fun _ h _ => h); have c2t0 := t2.at 0 rfl; have c2t1 := t2.at 1 rfl; have c2x0 := x2.at 0 rfl; have c2x1 := x2.at 1 rfl; have c2x2 := x2.at 2 rfl; have c2s := s2.at 0 rfl; have c2j := j2.at 0 rfl; have c2q := q2.at 0 rfl; obtain ⟨r20, r21, r22, r23, r24, r25, r26⟩ := br_cells (hO2.slc brEnc_len) hk; simp only [Nat.zero_add] at r20 r21 r22 r23 r24 r25 r26))
          refine wp_region_held_drew (S := (fun w' => w'.cell? ⟨sb, 0, none⟩ = some (.int .u64 se) ∧ w'.cell? ⟨xb1, 0, none⟩ = some (.int .u32 xf) ∧ w'.cell? ⟨xb1, 1, none⟩ = some (.string xg) ∧ w'.cell? ⟨xb1, 2, none⟩ = some (.string xb))) (by kernel_rfl) ?_ (fun hHeld => ?_)
          · (first | exact ⟨c2s, c2x0, c2x1, c2x2⟩ | exact ⟨cms, cmx0, cmx1, cmx2⟩ | exact ⟨cns, cnx0, cnx1, cnx2⟩)
          refine takeY 0 54 rfl rfl (v := ?_) ?_ hHeld ?_
          rotate_left 1
          · (intro w hSw; (try dsimp only at hSw); go_simp; (try with_reducible rfl))
          try simp only [Act.put, lsT, lsZ, lsS]
          refine takeY 1 55 rfl rfl (v := ?_) ?_ hHeld ?_
          rotate_left 1
          · (intro w hSw; (try dsimp only at hSw); go_simp; (try with_reducible rfl))
          try simp only [Act.put, lsT, lsZ, lsS]
          refine takeY 2 56 rfl rfl (v := ?_) ?_ hHeld ?_
          rotate_left 1
          · (intro w hSw; (try dsimp only at hSw); go_simp; (try with_reducible rfl))
          try simp only [Act.put, lsT, lsZ, lsS]
          refine takeY 3 57 rfl rfl (v := ?_) ?_ hHeld ?_
          rotate_left 1
          · (intro w hSw; (try dsimp only at hSw); go_simp; (try with_reducible rfl))
          try simp only [Act.put, lsT, lsZ, lsS]
          refine takeY 4 58 rfl rfl (v := ?_) ?_ hHeld ?_
          rotate_left 1
          · (intro w hSw; (try dsimp only at hSw); go_simp; (try with_reducible rfl))
          try simp only [Act.put, lsT, lsZ, lsS]
          refine takeY 6 60 rfl rfl (v := ?_) ?_ hHeld ?_
          rotate_left 1
          · (intro w hSw; (try dsimp only at hSw); go_simp; (try with_reducible rfl))
          try simp only [Act.put, lsT, lsZ, lsS]
          refine takeY 7 61 rfl rfl (v := ?_) ?_ hHeld ?_
          rotate_left 1
          · (intro w hSw; (try dsimp only at hSw); go_simp; (try with_reducible rfl))
          try simp only [Act.put, lsT, lsZ, lsS]
          refine wpAnyH_ready (rs := [5]) (by kernel_rfl) (by simp) ?_
          refine AllReadyH.cons rfl (fun K hK => ?_) AllReadyH.nil
          go_simp
          refine hK.out _ _ ?_ (fun hHeld => ?_)
          · (first | exact ⟨c2s, c2x0, c2x1, c2x2⟩ | exact ⟨cms, cmx0, cmx1, cmx2⟩ | exact ⟨cns, cnx0, cnx1, cnx2⟩)
          clear hK K
          try simp only [Act.put, lsT, lsZ, lsS]
          refine wpAnyH_ready (rs := [8]) (by kernel_rfl) (by simp) ?_
          refine AllReadyH.cons rfl (fun K hK => ?_) AllReadyH.nil
          go_simp
          go_at_call 53
          refine (start_any _ (.slice aa A.length ac) A se (xf, xg, xb) (hA2.drew.slc ascEnc_len) hLA).mono ?_
          rintro e wm ⟨v, rfl, hM, hBm⟩
          have tm := t2.drew.pure hBm
          have xm := x2.drew.pure hBm
          have sm := s2.drew.pure hBm
          have jm := j2.drew.pure hBm
          have qm := q2.drew.pure hBm
          have hOm := hO2.drew.pure hBm
          have hAm := hA2.drew.pure hBm
          have hUm := hU2.drew.trans (Upd.of_below hBm) (fun _ h _ => h)
          have cmt0 := tm.at 0 rfl
          have cmt1 := tm.at 1 rfl
          have cmx0 := xm.at 0 rfl
          have cmx1 := xm.at 1 rfl
          have cmx2 := xm.at 2 rfl
          have cms := sm.at 0 rfl
          have cmj := jm.at 0 rfl
          have cmq := qm.at 0 rfl
          obtain ⟨va, vc, rfl⟩ := own_len hM
          rw [hF2.out]
          refine hK.out _ _ ?_ (fun hHeld => ?_)
          · (first | exact ⟨c2s, c2x0, c2x1, c2x2⟩ | exact ⟨cms, cmx0, cmx1, cmx2⟩ | exact ⟨cns, cnx0, cnx1, cnx2⟩)
          clear hK K
          try simp only [Act.put, lsT, lsZ, lsS]
          refine takeY 9 63 rfl rfl (v := ?_) ?_ hHeld ?_
          rotate_left 1
          · (intro w hSw; (try dsimp only at hSw); go_simp; (try with_reducible rfl))
          try simp only [Act.put, lsT, lsZ, lsS]
          refine takeY 10 64 rfl rfl (v := ?_) ?_ hHeld ?_
          rotate_left 1
          · (intro w hSw; (try dsimp only at hSw); go_simp; (try with_reducible rfl))
          try simp only [Act.put, lsT, lsZ, lsS]
          refine wpAnyH_ready (rs := [11]) (by kernel_rfl) (by simp) ?_
          refine AllReadyH.cons rfl (fun K hK => ?_) AllReadyH.nil
          go_simp
          go_at_call 52
          refine (tlink_ok _ tb (.slice (some ⟨g, 0, none⟩) R.length cap) (.slice aa A.length ac) _ tm hM).mono ?_
          rintro e wn ⟨rfl, tn, hUl⟩
          have hMs : s + 5 ≤ w2.heap.size := Nat.le_trans hroom (hU2.size)
          have hAn := (hM.upd hUl (fun k hk e => by have := hM.ge hk; have := t2.lt; simp at *; omega)).rebase (b' := s + 5) (fun k hk => by have := hM.ge hk; simp at *; omega)
          have hOn := hOm.upd hUl (fun k hk e => hrt (by rw [hk, e]))
          have xn := xm.upd hUl (by omega)
          have sn := sm.upd hUl (by omega)
          have hUn := hUm.trans (hUl.mono (T := fun k => False ∨ s + 5 ≤ k) (fun k h _ => Or.inr (by rw [h]; exact hhigh))) (fun _ h _ => h)
          have cnx0 := xn.at 0 rfl; have cnx1 := xn.at 1 rfl; have cnx2 := xn.at 2 rfl; have cns := sn.at 0 rfl
          refine hK.out _ _ ?_ (fun hHeld => ?_)
          · (first | exact ⟨c2s, c2x0, c2x1, c2x2⟩ | exact ⟨cms, cmx0, cmx1, cmx2⟩ | exact ⟨cns, cnx0, cnx1, cnx2⟩)
          clear hK K
          try simp only [Act.put, lsT, lsZ, lsS]
          refine wpAnyH_done (by kernel_rfl) ?_ _
          go_wp2
          (first | go_ret | go_ret2)
          rw [hD.out]
          exact .inl ⟨_, _, rfl, rfl, tn, hOn, hAn, hUn, trivial⟩
        · have hdum := True.intro
          have hD : Hid (startD R A se (xf, xg, xb) true false = errR 9) := Lib.hid (by unfold startD; rw [if_neg hab, if_neg (by simp), hI]; simp only [List.getD_eq_getElem?_getD, List.getElem?_eq_getElem hk, Option.getD_some]; rw [if_neg (fun h => h h1), if_neg (fun h => h h3)]; simp only [Bool.false_eq_true, if_false, if_neg hF])
          obtain ⟨er, her⟩ : ∃ er, (startF A se (xf, xg, xb)).2 = er := ⟨_, rfl⟩
          have hF2 := Lib.hid her
          have hF9 : Hid (er ≠ 0) := Lib.hid (by rw [← her]; exact hF)
          clear her
          clear h1 h3 hI hab hF
          go_wp2_with (first | (go_at_call 50; (with_reducible refine (must_ok _ _).mono ?_); rintro e _ ⟨rfl, rfl⟩) | (go_at_call 54; (with_reducible refine (trow_yes _ tb g R.length cap (.slice aa A.length ac) R (xf, xg, xb) k tc (hOc.slc brEnc_len) hr'.out hLR hk hex.out).mono ?_); rintro e w2 ⟨rfl, hB2⟩; have t2 := tc.pure hB2; have x2 := xc.pure hB2; have s2 := sc.pure hB2; have j2 := jc.pure hB2; have q2 := qc.pure hB2; have hO2 := hOc.pure hB2; have hA2 := hAc.pure hB2; have hU2 := hUc.trans (Upd.of_below hB2) (fun _ h _ => h); have c2t0 := t2.at 0 rfl; have c2t1 := t2.at 1 rfl; have c2x0 := x2.at 0 rfl; have c2x1 := x2.at 1 rfl; have c2x2 := x2.at 2 rfl; have c2s := s2.at 0 rfl; have c2j := j2.at 0 rfl; have c2q := q2.at 0 rfl; obtain ⟨r20, r21, r22, r23, r24, r25, r26⟩ := br_cells (hO2.slc brEnc_len) hk; simp only [Nat.zero_add] at r20 r21 r22 r23 r24 r25 r26))
          refine wp_region_held_drew (S := (fun w' => w'.cell? ⟨sb, 0, none⟩ = some (.int .u64 se) ∧ w'.cell? ⟨xb1, 0, none⟩ = some (.int .u32 xf) ∧ w'.cell? ⟨xb1, 1, none⟩ = some (.string xg) ∧ w'.cell? ⟨xb1, 2, none⟩ = some (.string xb))) (by kernel_rfl) ?_ (fun hHeld => ?_)
          · (first | exact ⟨c2s, c2x0, c2x1, c2x2⟩ | exact ⟨cms, cmx0, cmx1, cmx2⟩ | exact ⟨cns, cnx0, cnx1, cnx2⟩)
          refine takeY 0 54 rfl rfl (v := ?_) ?_ hHeld ?_
          rotate_left 1
          · (intro w hSw; (try dsimp only at hSw); go_simp; (try with_reducible rfl))
          try simp only [Act.put, lsT, lsZ, lsS]
          refine takeY 1 55 rfl rfl (v := ?_) ?_ hHeld ?_
          rotate_left 1
          · (intro w hSw; (try dsimp only at hSw); go_simp; (try with_reducible rfl))
          try simp only [Act.put, lsT, lsZ, lsS]
          refine takeY 2 56 rfl rfl (v := ?_) ?_ hHeld ?_
          rotate_left 1
          · (intro w hSw; (try dsimp only at hSw); go_simp; (try with_reducible rfl))
          try simp only [Act.put, lsT, lsZ, lsS]
          refine takeY 3 57 rfl rfl (v := ?_) ?_ hHeld ?_
          rotate_left 1
          · (intro w hSw; (try dsimp only at hSw); go_simp; (try with_reducible rfl))
          try simp only [Act.put, lsT, lsZ, lsS]
          refine takeY 4 58 rfl rfl (v := ?_) ?_ hHeld ?_
          rotate_left 1
          · (intro w hSw; (try dsimp only at hSw); go_simp; (try with_reducible rfl))
          try simp only [Act.put, lsT, lsZ, lsS]
          refine takeY 6 60 rfl rfl (v := ?_) ?_ hHeld ?_
          rotate_left 1
          · (intro w hSw; (try dsimp only at hSw); go_simp; (try with_reducible rfl))
          try simp only [Act.put, lsT, lsZ, lsS]
          refine takeY 7 61 rfl rfl (v := ?_) ?_ hHeld ?_
          rotate_left 1
          · (intro w hSw; (try dsimp only at hSw); go_simp; (try with_reducible rfl))
          try simp only [Act.put, lsT, lsZ, lsS]
          refine wpAnyH_ready (rs := [5]) (by kernel_rfl) (by simp) ?_
          refine AllReadyH.cons rfl (fun K hK => ?_) AllReadyH.nil
          go_simp
          refine hK.out _ _ ?_ (fun hHeld => ?_)
          · (first | exact ⟨c2s, c2x0, c2x1, c2x2⟩ | exact ⟨cms, cmx0, cmx1, cmx2⟩ | exact ⟨cns, cnx0, cnx1, cnx2⟩)
          clear hK K
          try simp only [Act.put, lsT, lsZ, lsS]
          refine wpAnyH_ready (rs := [8]) (by kernel_rfl) (by simp) ?_
          refine AllReadyH.cons rfl (fun K hK => ?_) AllReadyH.nil
          go_simp
          go_at_call 53
          refine (start_any _ (.slice aa A.length ac) A se (xf, xg, xb) (hA2.drew.slc ascEnc_len) hLA).mono ?_
          rintro e wm ⟨v, rfl, hM, hBm⟩
          have tm := t2.drew.pure hBm
          have xm := x2.drew.pure hBm
          have sm := s2.drew.pure hBm
          have jm := j2.drew.pure hBm
          have qm := q2.drew.pure hBm
          have hOm := hO2.drew.pure hBm
          have hAm := hA2.drew.pure hBm
          have hUm := hU2.drew.trans (Upd.of_below hBm) (fun _ h _ => h)
          have cmt0 := tm.at 0 rfl
          have cmt1 := tm.at 1 rfl
          have cmx0 := xm.at 0 rfl
          have cmx1 := xm.at 1 rfl
          have cmx2 := xm.at 2 rfl
          have cms := sm.at 0 rfl
          have cmj := jm.at 0 rfl
          have cmq := qm.at 0 rfl
          obtain ⟨va, vc, rfl⟩ := own_len hM
          rw [hF2.out]
          refine hK.out _ _ ?_ (fun hHeld => ?_)
          · (first | exact ⟨c2s, c2x0, c2x1, c2x2⟩ | exact ⟨cms, cmx0, cmx1, cmx2⟩ | exact ⟨cns, cnx0, cnx1, cnx2⟩)
          clear hK K
          try simp only [Act.put, lsT, lsZ, lsS]
          refine takeY 9 63 rfl rfl (v := ?_) ?_ hHeld ?_
          rotate_left 1
          · (intro w hSw; (try dsimp only at hSw); go_simp; (try with_reducible rfl))
          try simp only [Act.put, lsT, lsZ, lsS]
          refine takeY 10 64 rfl rfl (v := ?_) ?_ hHeld ?_
          rotate_left 1
          · (intro w hSw; (try dsimp only at hSw); go_simp; (try with_reducible rfl))
          try simp only [Act.put, lsT, lsZ, lsS]
          refine wpAnyH_ready (rs := [11]) (by kernel_rfl) (by simp) ?_
          refine AllReadyH.cons rfl (fun K hK => ?_) AllReadyH.nil
          go_simp
          go_at_call 52
          refine (tlink_no _ tb _ _ hF9.out).mono ?_
          rintro e wn ⟨rfl, rfl⟩
          refine ⟨rfl, ?_⟩
          rw [hD.out]
          exact .inr ⟨9, by decide, rfl, rfl, hUm⟩
      · have hdum := True.intro
        rcases Classical.em (MemB R (xf, xg, xb)) with hm | hm
        rotate_left 1
        · have hn := Lib.hid hm
          have hD : Hid (startD R A se (xf, xg, xb) true true = errR 7) := Lib.hid (by unfold startD; rw [if_neg hab, if_neg (by simp), idxB_no hm])
          clear hm hr hab
          go_wp2_with (first | (go_at_call 50; (with_reducible refine (must_ok _ _).mono ?_); rintro e _ ⟨rfl, rfl⟩) | (go_at_call 54; (with_reducible refine (trow_no _ tb rv (.slice aa A.length ac) R (xf, xg, xb) tc (hOc.slc brEnc_len) hr'.out hLR hn.out).mono ?_); rintro e w2 ⟨rfl, hB2⟩; have hU2 := hUc.trans (Upd.of_below hB2) (fun _ h _ => h)))
          refine ⟨rfl, ?_⟩
          rw [hD.out]
          exact .inr ⟨7, by decide, rfl, rfl, hU2⟩
        obtain ⟨k, hk, hex0⟩ := hm
        obtain ⟨g, cap, rfl, hg1, hg2⟩ := hOc.shape (fun e => by rw [e] at hk; simp at hk)
        have hI := idxB_yes hr hk hex0
        have hex := Lib.hid hex0
        clear hr hex0
        by_cases h1 : R[k].st = 1
        rotate_left 1
        · have hsb : (R[k].st == 1) = false := beq_eq_false_iff_ne.2 h1
          have hD : Hid (startD R A se (xf, xg, xb) true true = errR 9) := Lib.hid (by unfold startD; rw [if_neg hab, if_neg (by simp), hI]; simp only [List.getD_eq_getElem?_getD, List.getElem?_eq_getElem hk, Option.getD_some]; rw [if_pos h1])
          clear h1 hI hab
          go_wp2_with (first | (go_at_call 50; (with_reducible refine (must_ok _ _).mono ?_); rintro e _ ⟨rfl, rfl⟩) | (go_at_call 54; (with_reducible refine (trow_yes _ tb g R.length cap (.slice aa A.length ac) R (xf, xg, xb) k tc (hOc.slc brEnc_len) hr'.out hLR hk hex.out).mono ?_); rintro e w2 ⟨rfl, hB2⟩; have t2 := tc.pure hB2; have x2 := xc.pure hB2; have s2 := sc.pure hB2; have j2 := jc.pure hB2; have q2 := qc.pure hB2; have hO2 := hOc.pure hB2; have hA2 := hAc.pure hB2; have hU2 := hUc.trans (Upd.of_below hB2) (fun _ h _ => h); have c2t0 := t2.at 0 rfl; have c2t1 := t2.at 1 rfl; have c2x0 := x2.at 0 rfl; have c2x1 := x2.at 1 rfl; have c2x2 := x2.at 2 rfl; have c2s := s2.at 0 rfl; have c2j := j2.at 0 rfl; have c2q := q2.at 0 rfl; obtain ⟨r20, r21, r22, r23, r24, r25, r26⟩ := br_cells (hO2.slc brEnc_len) hk; simp only [Nat.zero_add] at r20 r21 r22 r23 r24 r25 r26) | (go_at_call 50; (with_reducible refine (must_no _ _).mono ?_); rintro e _ ⟨rfl, rfl⟩))
          refine ⟨rfl, ?_⟩
          rw [hD.out]
          exact .inr ⟨9, by decide, rfl, rfl, hU2⟩
        have hsb : (R[k].st == 1) = true := by rw [h1]; rfl
        by_cases h3 : R[k].why = 0
        rotate_left 1
        · have hwb : (R[k].why != 0) = true := bne_iff_ne.2 h3
          have hD : Hid (startD R A se (xf, xg, xb) true true = (R, A, R[k].why, 0)) := Lib.hid (by unfold startD; rw [if_neg hab, if_neg (by simp), hI]; simp only [List.getD_eq_getElem?_getD, List.getElem?_eq_getElem hk, Option.getD_some]; rw [if_neg (fun h => h h1), if_pos h3])
          clear h1 h3 hI hab
          go_wp2_with (first | (go_at_call 50; (with_reducible refine (must_ok _ _).mono ?_); rintro e _ ⟨rfl, rfl⟩) | (go_at_call 54; (with_reducible refine (trow_yes _ tb g R.length cap (.slice aa A.length ac) R (xf, xg, xb) k tc (hOc.slc brEnc_len) hr'.out hLR hk hex.out).mono ?_); rintro e w2 ⟨rfl, hB2⟩; have t2 := tc.pure hB2; have x2 := xc.pure hB2; have s2 := sc.pure hB2; have j2 := jc.pure hB2; have q2 := qc.pure hB2; have hO2 := hOc.pure hB2; have hA2 := hAc.pure hB2; have hU2 := hUc.trans (Upd.of_below hB2) (fun _ h _ => h); have c2t0 := t2.at 0 rfl; have c2t1 := t2.at 1 rfl; have c2x0 := x2.at 0 rfl; have c2x1 := x2.at 1 rfl; have c2x2 := x2.at 2 rfl; have c2s := s2.at 0 rfl; have c2j := j2.at 0 rfl; have c2q := q2.at 0 rfl; obtain ⟨r20, r21, r22, r23, r24, r25, r26⟩ := br_cells (hO2.slc brEnc_len) hk; simp only [Nat.zero_add] at r20 r21 r22 r23 r24 r25 r26))
          (first | go_ret | go_ret2)
          rw [hD.out]
          exact .inl ⟨_, _, rfl, rfl, t2, hO2, hA2, hU2, trivial⟩
        have hwb : (R[k].why != 0) = false := by rw [h3]; rfl
        by_cases hF : (resumeF A se (xf, xg, xb)).2 = 0
        · have hdum := True.intro
          have hD : Hid (startD R A se (xf, xg, xb) true true = (R, (resumeF A se (xf, xg, xb)).1, 0, 0)) := Lib.hid (by unfold startD; rw [if_neg hab, if_neg (by simp), hI]; simp only [List.getD_eq_getElem?_getD, List.getElem?_eq_getElem hk, Option.getD_some]; rw [if_neg (fun h => h h1), if_neg (fun h => h h3)]; simp only [if_true, if_pos hF])
          have hF2 := Lib.hid hF
          clear h1 h3 hI hab hF
          go_wp2_with (first | (go_at_call 50; (with_reducible refine (must_ok _ _).mono ?_); rintro e _ ⟨rfl, rfl⟩) | (go_at_call 54; (with_reducible refine (trow_yes _ tb g R.length cap (.slice aa A.length ac) R (xf, xg, xb) k tc (hOc.slc brEnc_len) hr'.out hLR hk hex.out).mono ?_); rintro e w2 ⟨rfl, hB2⟩; have t2 := tc.pure hB2; have x2 := xc.pure hB2; have s2 := sc.pure hB2; have j2 := jc.pure hB2; have q2 := qc.pure hB2; have hO2 := hOc.pure hB2; have hA2 := hAc.pure hB2; have hU2 := hUc.trans (Upd.of_below hB2) (fun _ h _ => h); have c2t0 := t2.at 0 rfl; have c2t1 := t2.at 1 rfl; have c2x0 := x2.at 0 rfl; have c2x1 := x2.at 1 rfl; have c2x2 := x2.at 2 rfl; have c2s := s2.at 0 rfl; have c2j := j2.at 0 rfl; have c2q := q2.at 0 rfl; obtain ⟨r20, r21, r22, r23, r24, r25, r26⟩ := br_cells (hO2.slc brEnc_len) hk; simp only [Nat.zero_add] at r20 r21 r22 r23 r24 r25 r26))
          refine wp_region_held_drew (S := (fun w' => w'.cell? ⟨sb, 0, none⟩ = some (.int .u64 se) ∧ w'.cell? ⟨xb1, 0, none⟩ = some (.int .u32 xf) ∧ w'.cell? ⟨xb1, 1, none⟩ = some (.string xg) ∧ w'.cell? ⟨xb1, 2, none⟩ = some (.string xb))) (by kernel_rfl) ?_ (fun hHeld => ?_)
          · (first | exact ⟨c2s, c2x0, c2x1, c2x2⟩ | exact ⟨cms, cmx0, cmx1, cmx2⟩ | exact ⟨cns, cnx0, cnx1, cnx2⟩)
          refine takeY 0 78 rfl rfl (v := ?_) ?_ hHeld ?_
          rotate_left 1
          · (intro w hSw; (try dsimp only at hSw); go_simp; (try with_reducible rfl))
          try simp only [Act.put, lsT, lsZ, lsS]
          refine takeY 1 79 rfl rfl (v := ?_) ?_ hHeld ?_
          rotate_left 1
          · (intro w hSw; (try dsimp only at hSw); go_simp; (try with_reducible rfl))
          try simp only [Act.put, lsT, lsZ, lsS]
          refine takeY 2 80 rfl rfl (v := ?_) ?_ hHeld ?_
          rotate_left 1
          · (intro w hSw; (try dsimp only at hSw); go_simp; (try with_reducible rfl))
          try simp only [Act.put, lsT, lsZ, lsS]
          refine takeY 3 81 rfl rfl (v := ?_) ?_ hHeld ?_
          rotate_left 1
          · (intro w hSw; (try dsimp only at hSw); go_simp; (try with_reducible rfl))
          try simp only [Act.put, lsT, lsZ, lsS]
          refine takeY 4 82 rfl rfl (v := ?_) ?_ hHeld ?_
          rotate_left 1
          · (intro w hSw; (try dsimp only at hSw); go_simp; (try with_reducible rfl))
          try simp only [Act.put, lsT, lsZ, lsS]
          refine takeY 6 84 rfl rfl (v := ?_) ?_ hHeld ?_
          rotate_left 1
          · (intro w hSw; (try dsimp only at hSw); go_simp; (try with_reducible rfl))
          try simp only [Act.put, lsT, lsZ, lsS]
          refine takeY 7 85 rfl rfl (v := ?_) ?_ hHeld ?_
          rotate_left 1
          · (intro w hSw; (try dsimp only at hSw); go_simp; (try with_reducible rfl))
          try simp only [Act.put, lsT, lsZ, lsS]
          refine wpAnyH_ready (rs := [5]) (by kernel_rfl) (by simp) ?_
          refine AllReadyH.cons rfl (fun K hK => ?_) AllReadyH.nil
          go_simp
          refine hK.out _ _ ?_ (fun hHeld => ?_)
          · (first | exact ⟨c2s, c2x0, c2x1, c2x2⟩ | exact ⟨cms, cmx0, cmx1, cmx2⟩ | exact ⟨cns, cnx0, cnx1, cnx2⟩)
          clear hK K
          try simp only [Act.put, lsT, lsZ, lsS]
          refine wpAnyH_ready (rs := [8]) (by kernel_rfl) (by simp) ?_
          refine AllReadyH.cons rfl (fun K hK => ?_) AllReadyH.nil
          go_simp
          go_at_call 55
          refine (resume_any _ (.slice aa A.length ac) A se (xf, xg, xb) (hA2.drew.slc ascEnc_len) hLA).mono ?_
          rintro e wm ⟨v, rfl, hM, hBm⟩
          have tm := t2.drew.pure hBm
          have xm := x2.drew.pure hBm
          have sm := s2.drew.pure hBm
          have jm := j2.drew.pure hBm
          have qm := q2.drew.pure hBm
          have hOm := hO2.drew.pure hBm
          have hAm := hA2.drew.pure hBm
          have hUm := hU2.drew.trans (Upd.of_below hBm) (fun _ h _ => h)
          have cmt0 := tm.at 0 rfl
          have cmt1 := tm.at 1 rfl
          have cmx0 := xm.at 0 rfl
          have cmx1 := xm.at 1 rfl
          have cmx2 := xm.at 2 rfl
          have cms := sm.at 0 rfl
          have cmj := jm.at 0 rfl
          have cmq := qm.at 0 rfl
          obtain ⟨va, vc, rfl⟩ := own_len hM
          rw [hF2.out]
          refine hK.out _ _ ?_ (fun hHeld => ?_)
          · (first | exact ⟨c2s, c2x0, c2x1, c2x2⟩ | exact ⟨cms, cmx0, cmx1, cmx2⟩ | exact ⟨cns, cnx0, cnx1, cnx2⟩)
          clear hK K
          try simp only [Act.put, lsT, lsZ, lsS]
          refine takeY 9 87 rfl rfl (v := ?_) ?_ hHeld ?_
          rotate_left 1
          · (intro w hSw; (try dsimp only at hSw); go_simp; (try with_reducible rfl))
          try simp only [Act.put, lsT, lsZ, lsS]
          refine takeY 10 88 rfl rfl (v := ?_) ?_ hHeld ?_
          rotate_left 1
          · (intro w hSw; (try dsimp only at hSw); go_simp; (try with_reducible rfl))
          try simp only [Act.put, lsT, lsZ, lsS]
          refine wpAnyH_ready (rs := [11]) (by kernel_rfl) (by simp) ?_
          refine AllReadyH.cons rfl (fun K hK => ?_) AllReadyH.nil
          go_simp
          go_at_call 52
          refine (tlink_ok _ tb (.slice (some ⟨g, 0, none⟩) R.length cap) (.slice aa A.length ac) _ tm hM).mono ?_
          rintro e wn ⟨rfl, tn, hUl⟩
          have hMs : s + 5 ≤ w2.heap.size := Nat.le_trans hroom (hU2.size)
          have hAn := (hM.upd hUl (fun k hk e => by have := hM.ge hk; have := t2.lt; simp at *; omega)).rebase (b' := s + 5) (fun k hk => by have := hM.ge hk; simp at *; omega)
          have hOn := hOm.upd hUl (fun k hk e => hrt (by rw [hk, e]))
          have xn := xm.upd hUl (by omega)
          have sn := sm.upd hUl (by omega)
          have hUn := hUm.trans (hUl.mono (T := fun k => False ∨ s + 5 ≤ k) (fun k h _ => Or.inr (by rw [h]; exact hhigh))) (fun _ h _ => h)
          have cnx0 := xn.at 0 rfl; have cnx1 := xn.at 1 rfl; have cnx2 := xn.at 2 rfl; have cns := sn.at 0 rfl
          refine hK.out _ _ ?_ (fun hHeld => ?_)
          · (first | exact ⟨c2s, c2x0, c2x1, c2x2⟩ | exact ⟨cms, cmx0, cmx1, cmx2⟩ | exact ⟨cns, cnx0, cnx1, cnx2⟩)
          clear hK K
          try simp only [Act.put, lsT, lsZ, lsS]
          refine wpAnyH_done (by kernel_rfl) ?_ _
          go_wp2
          (first | go_ret | go_ret2)
          rw [hD.out]
          exact .inl ⟨_, _, rfl, rfl, tn, hOn, hAn, hUn, trivial⟩
        · have hdum := True.intro
          have hD : Hid (startD R A se (xf, xg, xb) true true = errR 9) := Lib.hid (by unfold startD; rw [if_neg hab, if_neg (by simp), hI]; simp only [List.getD_eq_getElem?_getD, List.getElem?_eq_getElem hk, Option.getD_some]; rw [if_neg (fun h => h h1), if_neg (fun h => h h3)]; simp only [if_true, if_neg hF])
          obtain ⟨er, her⟩ : ∃ er, (resumeF A se (xf, xg, xb)).2 = er := ⟨_, rfl⟩
          have hF2 := Lib.hid her
          have hF9 : Hid (er ≠ 0) := Lib.hid (by rw [← her]; exact hF)
          clear her
          clear h1 h3 hI hab hF
          go_wp2_with (first | (go_at_call 50; (with_reducible refine (must_ok _ _).mono ?_); rintro e _ ⟨rfl, rfl⟩) | (go_at_call 54; (with_reducible refine (trow_yes _ tb g R.length cap (.slice aa A.length ac) R (xf, xg, xb) k tc (hOc.slc brEnc_len) hr'.out hLR hk hex.out).mono ?_); rintro e w2 ⟨rfl, hB2⟩; have t2 := tc.pure hB2; have x2 := xc.pure hB2; have s2 := sc.pure hB2; have j2 := jc.pure hB2; have q2 := qc.pure hB2; have hO2 := hOc.pure hB2; have hA2 := hAc.pure hB2; have hU2 := hUc.trans (Upd.of_below hB2) (fun _ h _ => h); have c2t0 := t2.at 0 rfl; have c2t1 := t2.at 1 rfl; have c2x0 := x2.at 0 rfl; have c2x1 := x2.at 1 rfl; have c2x2 := x2.at 2 rfl; have c2s := s2.at 0 rfl; have c2j := j2.at 0 rfl; have c2q := q2.at 0 rfl; obtain ⟨r20, r21, r22, r23, r24, r25, r26⟩ := br_cells (hO2.slc brEnc_len) hk; simp only [Nat.zero_add] at r20 r21 r22 r23 r24 r25 r26))
          refine wp_region_held_drew (S := (fun w' => w'.cell? ⟨sb, 0, none⟩ = some (.int .u64 se) ∧ w'.cell? ⟨xb1, 0, none⟩ = some (.int .u32 xf) ∧ w'.cell? ⟨xb1, 1, none⟩ = some (.string xg) ∧ w'.cell? ⟨xb1, 2, none⟩ = some (.string xb))) (by kernel_rfl) ?_ (fun hHeld => ?_)
          · (first | exact ⟨c2s, c2x0, c2x1, c2x2⟩ | exact ⟨cms, cmx0, cmx1, cmx2⟩ | exact ⟨cns, cnx0, cnx1, cnx2⟩)
          refine takeY 0 78 rfl rfl (v := ?_) ?_ hHeld ?_
          rotate_left 1
          · (intro w hSw; (try dsimp only at hSw); go_simp; (try with_reducible rfl))
          try simp only [Act.put, lsT, lsZ, lsS]
          refine takeY 1 79 rfl rfl (v := ?_) ?_ hHeld ?_
          rotate_left 1
          · (intro w hSw; (try dsimp only at hSw); go_simp; (try with_reducible rfl))
          try simp only [Act.put, lsT, lsZ, lsS]
          refine takeY 2 80 rfl rfl (v := ?_) ?_ hHeld ?_
          rotate_left 1
          · (intro w hSw; (try dsimp only at hSw); go_simp; (try with_reducible rfl))
          try simp only [Act.put, lsT, lsZ, lsS]
          refine takeY 3 81 rfl rfl (v := ?_) ?_ hHeld ?_
          rotate_left 1
          · (intro w hSw; (try dsimp only at hSw); go_simp; (try with_reducible rfl))
          try simp only [Act.put, lsT, lsZ, lsS]
          refine takeY 4 82 rfl rfl (v := ?_) ?_ hHeld ?_
          rotate_left 1
          · (intro w hSw; (try dsimp only at hSw); go_simp; (try with_reducible rfl))
          try simp only [Act.put, lsT, lsZ, lsS]
          refine takeY 6 84 rfl rfl (v := ?_) ?_ hHeld ?_
          rotate_left 1
          · (intro w hSw; (try dsimp only at hSw); go_simp; (try with_reducible rfl))
          try simp only [Act.put, lsT, lsZ, lsS]
          refine takeY 7 85 rfl rfl (v := ?_) ?_ hHeld ?_
          rotate_left 1
          · (intro w hSw; (try dsimp only at hSw); go_simp; (try with_reducible rfl))
          try simp only [Act.put, lsT, lsZ, lsS]
          refine wpAnyH_ready (rs := [5]) (by kernel_rfl) (by simp) ?_
          refine AllReadyH.cons rfl (fun K hK => ?_) AllReadyH.nil
          go_simp
          refine hK.out _ _ ?_ (fun hHeld => ?_)
          · (first | exact ⟨c2s, c2x0, c2x1, c2x2⟩ | exact ⟨cms, cmx0, cmx1, cmx2⟩ | exact ⟨cns, cnx0, cnx1, cnx2⟩)
          clear hK K
          try simp only [Act.put, lsT, lsZ, lsS]
          refine wpAnyH_ready (rs := [8]) (by kernel_rfl) (by simp) ?_
          refine AllReadyH.cons rfl (fun K hK => ?_) AllReadyH.nil
          go_simp
          go_at_call 55
          refine (resume_any _ (.slice aa A.length ac) A se (xf, xg, xb) (hA2.drew.slc ascEnc_len) hLA).mono ?_
          rintro e wm ⟨v, rfl, hM, hBm⟩
          have tm := t2.drew.pure hBm
          have xm := x2.drew.pure hBm
          have sm := s2.drew.pure hBm
          have jm := j2.drew.pure hBm
          have qm := q2.drew.pure hBm
          have hOm := hO2.drew.pure hBm
          have hAm := hA2.drew.pure hBm
          have hUm := hU2.drew.trans (Upd.of_below hBm) (fun _ h _ => h)
          have cmt0 := tm.at 0 rfl
          have cmt1 := tm.at 1 rfl
          have cmx0 := xm.at 0 rfl
          have cmx1 := xm.at 1 rfl
          have cmx2 := xm.at 2 rfl
          have cms := sm.at 0 rfl
          have cmj := jm.at 0 rfl
          have cmq := qm.at 0 rfl
          obtain ⟨va, vc, rfl⟩ := own_len hM
          rw [hF2.out]
          refine hK.out _ _ ?_ (fun hHeld => ?_)
          · (first | exact ⟨c2s, c2x0, c2x1, c2x2⟩ | exact ⟨cms, cmx0, cmx1, cmx2⟩ | exact ⟨cns, cnx0, cnx1, cnx2⟩)
          clear hK K
          try simp only [Act.put, lsT, lsZ, lsS]
          refine takeY 9 87 rfl rfl (v := ?_) ?_ hHeld ?_
          rotate_left 1
          · (intro w hSw; (try dsimp only at hSw); go_simp; (try with_reducible rfl))
          try simp only [Act.put, lsT, lsZ, lsS]
          refine takeY 10 88 rfl rfl (v := ?_) ?_ hHeld ?_
          rotate_left 1
          · (intro w hSw; (try dsimp only at hSw); go_simp; (try with_reducible rfl))
          try simp only [Act.put, lsT, lsZ, lsS]
          refine wpAnyH_ready (rs := [11]) (by kernel_rfl) (by simp) ?_
          refine AllReadyH.cons rfl (fun K hK => ?_) AllReadyH.nil
          go_simp
          go_at_call 52
          refine (tlink_no _ tb _ _ hF9.out).mono ?_
          rintro e wn ⟨rfl, rfl⟩
          refine ⟨rfl, ?_⟩
          rw [hD.out]
          exact .inr ⟨9, by decide, rfl, rfl, hUm⟩
end Go.Proofs.Ytcelpincmpjhkaa
