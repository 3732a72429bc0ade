/- The document's disk: List, drop, put. Conditions: the disk's memory as 'DD' says, less than a million files. Written by gen_drB.py. -/
import Derived.Test.YtgpdbifgbabnnaaDrA
namespace Go.Proofs.Ytgpdbifgbabnnaa
open Go.RowKit
set_option linter.unusedVariables false
set_option linter.unusedSimpArgs false
theorem info_s10 : (Try.prog.info? 9).map (fun i => (i.zero, i.size, i.bytes)) = some (some (.string (ByteArray.mk #[])), 1, 16) := by kernel_rfl
theorem elem_s10 : ElemT Try.prog 35 9 1 16 := ElemT.mk' Try.underlying35 info_s10 rfl (by omega)
theorem bless_eq : ∀ (x y : List UInt8), Op.bytesLess x y = decide (x < y)
  | [], [] => by simp [Op.bytesLess]
  | _ :: _, [] => by simp [Op.bytesLess]
  | [], _ :: _ => by simp [Op.bytesLess]
  | a :: x, b :: y => by
    rw [Op.bytesLess, bless_eq x y]
    simp only [List.cons_lt_cons_iff]
    by_cases h1 : a < b <;> by_cases h2 : a = b <;> by_cases h3 : x < y <;> simp [h1, h2, h3]

set_option maxRecDepth 100000 in
set_option maxHeartbeats 3200000 in
theorem dlist_any (w : World) (q : Nat) (v : Value) (s : DS) (h : DD w q v s) (hL : s.L.length < 1000000) :
    Calls Try.prog 38 #[.pointer (some ⟨q, 0, none⟩)] w fun e w' => ∃ u, e = .returned u ∧ Own w.heap.size 9 1 strEnc w' u (s.L.map Fl.n) ∧ Below w.heap.size w w' := by
  obtain ⟨a, c, rfl⟩ := h.2.1.lens
  have hq0 := Lib.hid h; clear h
  go_enter Try.func38, Try.ntmps38
  go_wp2
  go_loopw [3, 4] (fun s3 s4 wr => ∃ k : Nat, k ≤ s.L.length ∧ s4 = .int .i64 k ∧ Own w.heap.size 9 1 strEnc wr s3 ((s.L.map Fl.n).take k) ∧ Below w.heap.size w wr) (fun _ s4 _ => s.L.length - (intOf s4).toNat)
  case atStart => exact ⟨0, by omega, rfl, by rw [List.take_zero]; exact Own.nil, Below.refl _ _⟩
  case round =>
    obtain ⟨k, hk, rfl, hO, hB⟩ := hrel
    have hD := hq0.out.pure hB
    have hBs := hB.size
    have c0 := hD.c0
    by_cases hlt : k < s.L.length
    · obtain ⟨g, cap, ev, hc, -⟩ := Own.atd flEnc_len hD.2.1 k hlt
      have hc0 := hc 0 (.string s.L[k].n) rfl
      simp only [Value.slice.injEq, Nat.add_zero, and_true, true_and] at ev hc0
      obtain ⟨rfl, rfl⟩ := ev
      clear hc hD
      have hl : ((s.L.map Fl.n).take k).length ≤ k := by rw [List.length_take]; omega
      have hkeq : (s.L.map Fl.n).take (k + 1) = (s.L.map Fl.n).take k ++ [s.L[k].n] := by
        rw [List.take_succ_eq_append_getElem (by simpa using hlt)]; simp
      have hkeq' := Lib.hid hkeq; clear hkeq
      go_wp2_with (first | (at_builtin; refine wpList_app1 rfl (.tmp 14) (.tmp 23) 35 9 rfl elem_s10 strEnc_len strEnc_one u3 _ rfl (hO.alloc _) wr.heap.size 1 s.L[k].n rfl (fun j u hu => ((Blk.new wr [.string s.L[k].n] 9).cell j).trans hu) (by omega) (by unfold maxLen; omega) (by simp; omega) ?_; intro g' cap' w4 hown hgr hfr))
      go_roundw
      case rel =>
        have hl2 : ((s.L.map Fl.n).take k).length = k := by rw [List.length_take, List.length_map]; omega
        rw [hl2] at hown
        exact ⟨k + 1, by omega, by go_num, by rw [hkeq'.out]; exact hown, (hB.alloc hBs _).grown hgr (by simp; omega) (fun j e => hO.ge e)⟩
      case measure => simp [intOf]; omega
    · go_wp2
      go_ret
      have : k = s.L.length := by omega
      subst this
      rw [List.take_of_length_le (by simp)] at hO
      exact ⟨_, rfl, hO, hB⟩

/-- A disk whose slice has been laid anew. -/
theorem DT.laid {w w1 : World} {q : Nat} {v vb : Value} {s : DS} {L : List Fl} (h : DD w q v s) (hb : Below w.heap.size w w1) (hO : Own w.heap.size 66 3 flEnc w1 vb L) : DT w (w1.setCell ⟨q, 0, none⟩ vb) q v { s with L := L } := by
  have hql := h.1.lt
  have hne : vb.ownBlock ≠ some q := fun e => by have := hO.ge e; omega
  refine ⟨vb, ⟨(h.1.pure hb).set 0 vb, (hO.rebase (fun k hk => Nat.zero_le _)).other _ _ (fun k hk e => hne (by rw [hk, e])), hne⟩, (Upd.of_below hb).trans (Upd.set (S := DQ q v) (p := ⟨q, 0, none⟩) (.inl rfl) _) (fun i hi _ => hi), fun k hk => ?_⟩
  rcases hk with rfl | hk
  · exact .inl (.inl rfl)
  · exact .inr (hO.ge hk)

set_option maxRecDepth 100000 in
set_option maxHeartbeats 3200000 in
theorem ddrop_any (w : World) (q : Nat) (v : Value) (s : DS) (k : Nat) (h : DD w q v s) (hL : s.L.length < 1000000) (hk : k < s.L.length) :
    Calls Try.prog 57 #[.pointer (some ⟨q, 0, none⟩), .int .i64 k] w fun e w' => e = .returned (.tuple #[]) ∧ DT w w' q v { s with L := s.L.take k ++ s.L.drop (k + 1) } := by
  obtain ⟨a, c, rfl⟩ := h.2.1.lens
  have hql := h.1.lt
  have c0 := h.c0
  have hS := h.slc
  have hl1 : (s.L.take k).length ≤ k := by rw [List.length_take]; omega
  have hl2 : (s.L.drop (k + 1)).length ≤ s.L.length := by rw [List.length_drop]; omega
  have hq0 := Lib.hid h; clear h
  go_enter Try.func57, Try.ntmps57
  go_wp2_with (first
    | (refine wpList_slc_h (x := .tmp 9) (y := .tmp 10) (u := k) rfl rfl elem_fl rfl hS rfl (by rfl) (by omega) ?_; intro v1 hs1)
    | (refine wpList_slc_l (x := .tmp 18) (y := .tmp 20) (l := k + 1) rfl rfl elem_fl rfl hS1 rfl (by omega) (by omega) ?_; intro v2 hs2)
    | (at_builtin; refine wpList_app (base := w.heap.size) rfl (.tmp 5) (.tmp 11) 57 66 rfl elem_fl flEnc_len flEnc_one (.slice none 0 0) [] rfl Own.nil v1 (s.L.take k) rfl hs1 (by simp; unfold maxLen; omega) (by simp; omega) (Nat.le_refl _) ?_; intro va w1 hO1 hg1 hv1 _; rw [List.nil_append] at hO1; have B1 : Below w.heap.size w w1 := (Below.refl _ _).grown hg1 (Nat.le_refl _) (fun j e => by cases e); have hD1 := hq0.out.pure B1; have hS1 := hD1.slc; have d0 := hD1.c0; have d1 := hD1.1.frozen 0; have hz1 := B1.size)
    | (at_builtin; refine wpList_app (base := w.heap.size) rfl (.tmp 14) (.tmp 21) 57 66 rfl elem_fl flEnc_len flEnc_one va (s.L.take k) rfl hO1 v2 (s.L.drop (k + 1)) rfl hs2 (by unfold maxLen; omega) (by omega) (by omega) ?_; intro vb w2 hO2 hg2 hv2 _; have B2 : Below w.heap.size w w2 := B1.grown hg2 B1.size (fun j e => hO1.ge e); have hD2 := hq0.out.pure B2; have e0 := hD2.c0; have e1 := hD2.1.frozen 0; obtain ⟨ba, bn, bc, rfl⟩ := hO2.shape3))
  go_end0
  exact ⟨rfl, DT.laid hq0.out B2 hO2⟩


set_option maxRecDepth 100000 in
set_option maxHeartbeats 6400000 in
theorem dput_any (w : World) (q : Nat) (v : Value) (s : DS) (f : Fl) (h : DD w q v s) (hL : s.L.length < 1000000) (hr : Rises s.L) (hg : getF s.L f.n = none) :
    Calls Try.prog 55 #[.pointer (some ⟨q, 0, none⟩), .agg #[.string f.n, .string f.b, .int .i64 f.s]] w fun e w' => e = .returned (.tuple #[]) ∧ DT w w' q v { s with L := setF s.L f } := by
  obtain ⟨a, c, rfl⟩ := h.2.1.lens
  have hql := h.1.lt
  have hq0 := Lib.hid h
  obtain ⟨W, hW⟩ : ∃ W, W = w.alloc (.cells #[.string f.n, .string f.b, .int .i64 f.s] 66) := ⟨_, rfl⟩
  have hT0 : Below w.heap.size w W := by rw [hW]; exact (Below.refl _ _).alloc (Nat.le_refl _) _
  have hX0 : Blk W w.heap.size [.string f.n, .string f.b, .int .i64 f.s] := by rw [hW]; exact Blk.new w [.string f.n, .string f.b, .int .i64 f.s] 66
  have hD0 := h.pure hT0
  have hz0 := hX0.lt
  clear h
  have hr' := Lib.hid hr; clear hr
  have hg' := Lib.hid hg; clear hg
  go_enter Try.func55, Try.ntmps55
  go_wp2
  rw [← hW]
  clear hW
  go_loopw [5] (fun s5 wr => ∃ k : Nat, k ≤ s.L.length ∧ s5 = .int .i64 k ∧ Below W.heap.size W wr ∧ ∀ j, ∀ h : j < s.L.length, j < k → ltN s.L[j].n f.n) (fun s5 _ => s.L.length - (intOf s5).toNat)
  case atStart => exact ⟨0, by omega, rfl, Below.refl _ _, fun j _ h => by omega⟩
  case round =>
    obtain ⟨k, hk, rfl, hB, hall⟩ := hrel
    have hall' := Lib.hid hall; clear hall
    have hD := hD0.pure hB
    have hX := hX0.pure hB
    have hzr := hB.size
    have fin : ∀ W5, Below wr.heap.size wr W5 → ∀ hstop : (∀ h : k < s.L.length, ¬ ltN s.L[k].n f.n), setF s.L f = s.L.take k ++ [f] ++ s.L.drop k := fun W5 _ hstop => setF_put hk (fun j h => hall'.out j (by omega) h) hstop hg'.out
    have fin' := Lib.hid fin; clear fin
    by_cases hlt : k < s.L.length
    · obtain ⟨g, cap, ev, hc, -⟩ := Own.atd flEnc_len hD.2.1 k hlt
      have hc0 := hc 0 (.string s.L[k].n) rfl
      simp only [Value.slice.injEq, Nat.add_zero, and_true, true_and] at ev hc0
      obtain ⟨rfl, rfl⟩ := ev
      clear hc
      cases hb : Op.bytesLess s.L[k].n.toList f.n.toList
      · have hnl : ¬ ltN s.L[k].n f.n := by rw [bless_eq] at hb; exact of_decide_eq_false hb
        have hstop : ∀ h : k < s.L.length, ¬ ltN s.L[k].n f.n := fun _ => hnl
        have hstop' := Lib.hid hstop; clear hstop hnl
        have c0 := hD.c0
        go_wp2
        have hb := ((Below.refl _ wr).drew : Below wr.heap.size wr wr.drew)
        refine wp_region_held_drew (S := fun v => Below wr.heap.size wr v) (by kernel_rfl) hb (fun hHeld => ?_)
        refine takeH 0 6 (v := ?_) rfl rfl (by kernel_rfl) (by kernel_rfl) (by kernel_rfl) (fun _ _ _ h => h) (Or.inl ⟨by kernel_rfl, ?_⟩) hHeld ?_
        rotate_left 1
        · (intro v hSw; (try dsimp only at hSw); clear hSw; go_simp; (try with_reducible rfl))
        try simp only [Act.put, List.setIfInBounds_toArray, List.set_cons_zero, List.set_cons_succ]
        refine takeH 1 7 (v := ?_) rfl rfl (by kernel_rfl) (by kernel_rfl) (by kernel_rfl) (fun _ _ _ h => h) (Or.inl ⟨by kernel_rfl, ?_⟩) hHeld ?_
        rotate_left 1
        · (intro v hSw; (try dsimp only at hSw); clear hSw; go_simp; (try with_reducible rfl))
        try simp only [Act.put, List.setIfInBounds_toArray, List.set_cons_zero, List.set_cons_succ]
        refine takeH 2 8 (v := ?_) rfl rfl (by kernel_rfl) (by kernel_rfl) (by kernel_rfl) (fun _ _ _ h => h) (Or.inl ⟨by kernel_rfl, ?_⟩) hHeld ?_
        rotate_left 1
        · (intro v hSw; (try dsimp only at hSw); clear hSw; go_simp; (try with_reducible rfl))
        try simp only [Act.put, List.setIfInBounds_toArray, List.set_cons_zero, List.set_cons_succ]
        refine takeH 3 9 (v := ?_) rfl rfl (by kernel_rfl) (by kernel_rfl) (by kernel_rfl) (fun _ _ _ h => h) (Or.inl ⟨by kernel_rfl, ?_⟩) hHeld ?_
        rotate_left 1
        · (intro v hSw; (try dsimp only at hSw); clear hSw; go_simp; (try with_reducible rfl))
        try simp only [Act.put, List.setIfInBounds_toArray, List.set_cons_zero, List.set_cons_succ]
        refine takeH 4 10 (v := ?_) rfl rfl (by kernel_rfl) (by kernel_rfl) (by kernel_rfl) (fun _ _ _ h => h) (Or.inl ⟨by kernel_rfl, ?_⟩) hHeld ?_
        rotate_left 1
        · (intro v hSw; (try dsimp only at hSw); have q0 := (hD.pure hSw).c0; clear hSw; go_simp; (try with_reducible rfl))
        try simp only [Act.put, List.setIfInBounds_toArray, List.set_cons_zero, List.set_cons_succ]
        refine takeH 5 11 (v := ?_) rfl rfl (by kernel_rfl) (by kernel_rfl) (by kernel_rfl) (fun _ _ _ h => h) (Or.inl ⟨by kernel_rfl, ?_⟩) hHeld ?_
        rotate_left 1
        · (intro v hSw; (try dsimp only at hSw); clear hSw; go_simp; (try with_reducible rfl))
        try simp only [Act.put, List.setIfInBounds_toArray, List.set_cons_zero, List.set_cons_succ]
        refine takeH 6 12 (v := ?_) rfl rfl (by kernel_rfl) (by kernel_rfl) (by kernel_rfl) (fun _ _ _ h => h) (Or.inl ⟨by kernel_rfl, ?_⟩) hHeld ?_
        rotate_left 1
        · (intro v hSw; (try dsimp only at hSw); clear hSw; go_simp; (try with_reducible rfl))
        try simp only [Act.put, List.setIfInBounds_toArray, List.set_cons_zero, List.set_cons_succ]
        refine takeH 7 13 (v := ?_) rfl rfl (by kernel_rfl) (by kernel_rfl) (by kernel_rfl) (fun _ _ _ h => h) (Or.inl ⟨by kernel_rfl, ?_⟩) hHeld ?_
        rotate_left 1
        · (intro v hSw; (try dsimp only at hSw); clear hSw; go_simp; (try with_reducible rfl))
        try simp only [Act.put, List.setIfInBounds_toArray, List.set_cons_zero, List.set_cons_succ]
        refine takeH 8 14 (v := ?_) rfl rfl (by kernel_rfl) (by kernel_rfl) (by kernel_rfl) (fun _ _ _ h => h) (Or.inl ⟨by kernel_rfl, ?_⟩) hHeld ?_
        rotate_left 1
        · (intro v hSw; (try dsimp only at hSw); clear hSw; go_simp; (try with_reducible rfl))
        try simp only [Act.put, List.setIfInBounds_toArray, List.set_cons_zero, List.set_cons_succ]
        refine takeH 9 15 (v := ?_) rfl rfl (by kernel_rfl) (by kernel_rfl) (by kernel_rfl) (fun _ _ _ h => h) (Or.inl ⟨by kernel_rfl, ?_⟩) hHeld ?_
        rotate_left 1
        · (intro v hSw; (try dsimp only at hSw); clear hSw; go_simp; (try with_reducible rfl))
        try simp only [Act.put, List.setIfInBounds_toArray, List.set_cons_zero, List.set_cons_succ]
        refine takeH 10 16 (v := ?_) rfl rfl (by kernel_rfl) (by kernel_rfl) (by kernel_rfl) (fun _ _ _ h => h) (Or.inl ⟨by kernel_rfl, ?_⟩) hHeld ?_
        rotate_left 1
        · (intro v hSw; (try dsimp only at hSw); clear hSw; go_simp; (try with_reducible rfl))
        try simp only [Act.put, List.setIfInBounds_toArray, List.set_cons_zero, List.set_cons_succ]
        refine takeH 11 17 (v := ?_) rfl rfl (by kernel_rfl) (by kernel_rfl) (by kernel_rfl) (fun _ _ _ h => h) (Or.inl ⟨by kernel_rfl, ?_⟩) hHeld ?_
        rotate_left 1
        · (intro v hSw; (try dsimp only at hSw); have q0 := (hD.pure hSw).c0; clear hSw; go_simp; (try with_reducible rfl))
        try simp only [Act.put, List.setIfInBounds_toArray, List.set_cons_zero, List.set_cons_succ]
        refine takeH 12 18 (v := ?_) rfl rfl (by kernel_rfl) (by kernel_rfl) (by kernel_rfl) (fun _ _ _ h => h) (Or.inl ⟨by kernel_rfl, ?_⟩) hHeld ?_
        rotate_left 1
        · (intro v hSw; (try dsimp only at hSw); clear hSw; go_simp; (try with_reducible rfl))
        try simp only [Act.put, List.setIfInBounds_toArray, List.set_cons_zero, List.set_cons_succ]
        refine takeH 13 19 (v := ?_) rfl rfl (by kernel_rfl) (by kernel_rfl) (by kernel_rfl) (fun _ _ _ h => h) (Or.inl ⟨by kernel_rfl, ?_⟩) hHeld ?_
        rotate_left 1
        · (intro v hSw; (try dsimp only at hSw); clear hSw; go_simp; (try with_reducible rfl))
        try simp only [Act.put, List.setIfInBounds_toArray, List.set_cons_zero, List.set_cons_succ]
        refine takeH 14 20 (v := ?_) rfl rfl (by kernel_rfl) (by kernel_rfl) (by kernel_rfl) (fun _ _ _ h => h) (Or.inl ⟨by kernel_rfl, ?_⟩) hHeld ?_
        rotate_left 1
        · (intro v hSw; (try dsimp only at hSw); clear hSw; go_simp; (try with_reducible rfl))
        try simp only [Act.put, List.setIfInBounds_toArray, List.set_cons_zero, List.set_cons_succ]
        refine takeH 15 21 (v := ?_) rfl rfl (by kernel_rfl) (by kernel_rfl) (by kernel_rfl) (fun _ _ _ h => h) (Or.inl ⟨by kernel_rfl, ?_⟩) hHeld ?_
        rotate_left 1
        · (intro v hSw; (try dsimp only at hSw); have q0 := (hSw.cell (World.block_lt_of_cell? wr _ hc0)).trans hc0; clear hSw; go_simp; (try with_reducible rfl))
        try simp only [Act.put, List.setIfInBounds_toArray, List.set_cons_zero, List.set_cons_succ]
        refine takeH 16 22 (v := ?_) rfl rfl (by kernel_rfl) (by kernel_rfl) (by kernel_rfl) (fun _ _ _ h => h) (Or.inl ⟨by kernel_rfl, ?_⟩) hHeld ?_
        rotate_left 1
        · (intro v hSw; (try dsimp only at hSw); clear hSw; go_simp; (try with_reducible rfl))
        try simp only [Act.put, List.setIfInBounds_toArray, List.set_cons_zero, List.set_cons_succ]
        refine takeH 17 23 (v := ?_) rfl rfl (by kernel_rfl) (by kernel_rfl) (by kernel_rfl) (fun _ _ _ h => h) (Or.inl ⟨by kernel_rfl, ?_⟩) hHeld ?_
        rotate_left 1
        · (intro v hSw; (try dsimp only at hSw); have q0 := (hX.pure hSw).at 0 rfl; clear hSw; go_simp; (try with_reducible rfl))
        try simp only [Act.put, List.setIfInBounds_toArray, List.set_cons_zero, List.set_cons_succ]
        refine takeH 18 24 (v := ?_) rfl rfl (by kernel_rfl) (by kernel_rfl) (by kernel_rfl) (fun _ _ _ h => h) (Or.inl ⟨by kernel_rfl, ?_⟩) hHeld ?_
        rotate_left 1
        · (intro v hSw; (try dsimp only at hSw); clear hSw; go_simp; (try with_reducible rfl))
        try simp only [Act.put, List.setIfInBounds_toArray, List.set_cons_zero, List.set_cons_succ]
        refine takeH 19 25 (v := ?_) rfl rfl (by kernel_rfl) (by kernel_rfl) (by kernel_rfl) (fun _ _ _ h => h) (Or.inl ⟨by kernel_rfl, ?_⟩) hHeld ?_
        rotate_left 1
        · (intro v hSw; (try dsimp only at hSw); clear hSw; go_simp; (try with_reducible rfl))
        try simp only [Act.put, List.setIfInBounds_toArray, List.set_cons_zero, List.set_cons_succ]
        refine wpAnyH_done (by kernel_rfl) ?_ _
        clear hHeld
        have hb2 : Below wr.heap.size wr wr.drew := (Below.refl _ wr).drew
        obtain ⟨V, hV⟩ : ∃ V, V = wr.drew := ⟨_, rfl⟩
        have BV : Below W.heap.size W V := by rw [hV]; exact hB.trans (hb2.mono hB.size)
        have hsz : V.heap.size = wr.heap.size := by rw [hV]; rfl
        rw [← hV]
        clear hV hb2
        have hDV := hD0.pure BV
        have hXV := hX0.pure BV
        have cV := hDV.c0
        have hSV := hDV.slc
        have xV0 := hXV.at 0 rfl
        have xV1 := hXV.at 1 rfl
        have xV2 := hXV.at 2 rfl
        have AV := hT0.trans (BV.mono hT0.size)
        have hzV := AV.size
        have hl1 : (s.L.take k).length ≤ k := by rw [List.length_take]; omega
        have hk2 : (s.L.take k).length = k := by rw [List.length_take]; omega
        have hl2 : (s.L.drop k).length ≤ s.L.length := by rw [List.length_drop]; omega
        clear hD hX c0
        go_wp2_with (first
          | (refine wpList_slc_h (x := .tmp 32) (y := .tmp 33) (u := k) rfl rfl elem_fl rfl hSV rfl (by rfl) (by omega) ?_; intro v1 hs1)
          | (refine wpList_slc_l (x := .tmp 45) (y := .tmp 46) (l := k) rfl rfl elem_fl rfl hS3 rfl (by rfl) (by omega) ?_; intro v2 hs2)
          | (at_builtin; refine wpList_app (base := w.heap.size) rfl (.tmp 28) (.tmp 34) 57 66 rfl elem_fl flEnc_len flEnc_one (.slice none 0 0) [] rfl Own.nil v1 (s.L.take k) rfl hs1 (by simp; unfold maxLen; omega) (by simp; omega) hzV ?_; intro va w1 hO1 hg1 hv1 _; rw [List.nil_append] at hO1; have B1 : Below V.heap.size V w1 := (Below.refl _ _).grown hg1 (Nat.le_refl _) (fun j e => by cases e); have A1 := AV.trans (B1.mono AV.size); have x1 := hXV.pure B1; have y0 := x1.at 0 rfl; have y1 := x1.at 1 rfl; have y2 := x1.at 2 rfl; have hz1 := A1.size; have hva : ∀ j, va.ownBlock = some j → V.heap.size ≤ j := fun j e => by (rcases hv1 with h | h <;> rw [h] at e); cases e; (injection e with e; omega))
          | (at_builtin; refine wpList_app1 rfl (.tmp 36) (.tmp 38) 57 66 rfl elem_fl flEnc_len flEnc_one va (s.L.take k) rfl (hO1.alloc _) w1.heap.size 1 f rfl (fun j u hu => ((Blk.new w1 [.string f.n, .string f.b, .int .i64 f.s] 66).cell j).trans hu) (by omega) (by unfold maxLen; omega) (by simp; omega) ?_; intro g3 cap3 w3 hO3 hg3 hv3; rw [hk2] at hO3; have A3 : Below w.heap.size w w3 := (A1.alloc A1.size _).grown hg3 (by simp; omega) (fun j e => hO1.ge e); have hD3 := hq0.out.pure A3; have hS3 := hD3.slc; have d0 := hD3.c0; have hz3 := A3.size)
          | (at_builtin; refine wpList_app (base := w.heap.size) rfl (.tmp 41) (.tmp 47) 57 66 rfl elem_fl flEnc_len flEnc_one _ (s.L.take k ++ [f]) rfl hO3 v2 (s.L.drop k) rfl hs2 (by simp only [List.length_append, List.length_cons, List.length_nil]; unfold maxLen; omega) (by simp only [List.length_append, List.length_cons, List.length_nil]; omega) hz3 ?_; intro vb w5 hO5 hg5 hv5 _; have A5 : Below w.heap.size w w5 := A3.grown hg5 A3.size (fun j e => hO3.ge e); have hD5 := hq0.out.pure A5; have e0 := hD5.c0; have e1 := hD5.1.frozen 0; obtain ⟨ba, bn, bc, rfl⟩ := hO5.shape3))
        go_end0
        have hset := fin'.out wr (Below.refl _ _) hstop'.out
        rw [← hset] at hO5
        exact ⟨rfl, DT.laid hq0.out A5 hO5⟩
      · have hnl : ltN s.L[k].n f.n := by rw [bless_eq] at hb; exact of_decide_eq_true hb
        have hnl' := Lib.hid hnl; clear hnl
        go_wp2
        have hb := ((Below.refl _ wr).drew : Below wr.heap.size wr wr.drew)
        refine wp_region_held_drew (S := fun v => Below wr.heap.size wr v) (by kernel_rfl) hb (fun hHeld => ?_)
        refine takeH 0 6 (v := ?_) rfl rfl (by kernel_rfl) (by kernel_rfl) (by kernel_rfl) (fun _ _ _ h => h) (Or.inl ⟨by kernel_rfl, ?_⟩) hHeld ?_
        rotate_left 1
        · (intro v hSw; (try dsimp only at hSw); clear hSw; go_simp; (try with_reducible rfl))
        try simp only [Act.put, List.setIfInBounds_toArray, List.set_cons_zero, List.set_cons_succ]
        refine takeH 1 7 (v := ?_) rfl rfl (by kernel_rfl) (by kernel_rfl) (by kernel_rfl) (fun _ _ _ h => h) (Or.inl ⟨by kernel_rfl, ?_⟩) hHeld ?_
        rotate_left 1
        · (intro v hSw; (try dsimp only at hSw); clear hSw; go_simp; (try with_reducible rfl))
        try simp only [Act.put, List.setIfInBounds_toArray, List.set_cons_zero, List.set_cons_succ]
        refine takeH 2 8 (v := ?_) rfl rfl (by kernel_rfl) (by kernel_rfl) (by kernel_rfl) (fun _ _ _ h => h) (Or.inl ⟨by kernel_rfl, ?_⟩) hHeld ?_
        rotate_left 1
        · (intro v hSw; (try dsimp only at hSw); clear hSw; go_simp; (try with_reducible rfl))
        try simp only [Act.put, List.setIfInBounds_toArray, List.set_cons_zero, List.set_cons_succ]
        refine takeH 3 9 (v := ?_) rfl rfl (by kernel_rfl) (by kernel_rfl) (by kernel_rfl) (fun _ _ _ h => h) (Or.inl ⟨by kernel_rfl, ?_⟩) hHeld ?_
        rotate_left 1
        · (intro v hSw; (try dsimp only at hSw); clear hSw; go_simp; (try with_reducible rfl))
        try simp only [Act.put, List.setIfInBounds_toArray, List.set_cons_zero, List.set_cons_succ]
        refine takeH 4 10 (v := ?_) rfl rfl (by kernel_rfl) (by kernel_rfl) (by kernel_rfl) (fun _ _ _ h => h) (Or.inl ⟨by kernel_rfl, ?_⟩) hHeld ?_
        rotate_left 1
        · (intro v hSw; (try dsimp only at hSw); have q0 := (hD.pure hSw).c0; clear hSw; go_simp; (try with_reducible rfl))
        try simp only [Act.put, List.setIfInBounds_toArray, List.set_cons_zero, List.set_cons_succ]
        refine takeH 5 11 (v := ?_) rfl rfl (by kernel_rfl) (by kernel_rfl) (by kernel_rfl) (fun _ _ _ h => h) (Or.inl ⟨by kernel_rfl, ?_⟩) hHeld ?_
        rotate_left 1
        · (intro v hSw; (try dsimp only at hSw); clear hSw; go_simp; (try with_reducible rfl))
        try simp only [Act.put, List.setIfInBounds_toArray, List.set_cons_zero, List.set_cons_succ]
        refine takeH 6 12 (v := ?_) rfl rfl (by kernel_rfl) (by kernel_rfl) (by kernel_rfl) (fun _ _ _ h => h) (Or.inl ⟨by kernel_rfl, ?_⟩) hHeld ?_
        rotate_left 1
        · (intro v hSw; (try dsimp only at hSw); clear hSw; go_simp; (try with_reducible rfl))
        try simp only [Act.put, List.setIfInBounds_toArray, List.set_cons_zero, List.set_cons_succ]
        refine takeH 7 13 (v := ?_) rfl rfl (by kernel_rfl) (by kernel_rfl) (by kernel_rfl) (fun _ _ _ h => h) (Or.inl ⟨by kernel_rfl, ?_⟩) hHeld ?_
        rotate_left 1
        · (intro v hSw; (try dsimp only at hSw); clear hSw; go_simp; (try with_reducible rfl))
        try simp only [Act.put, List.setIfInBounds_toArray, List.set_cons_zero, List.set_cons_succ]
        refine takeH 8 14 (v := ?_) rfl rfl (by kernel_rfl) (by kernel_rfl) (by kernel_rfl) (fun _ _ _ h => h) (Or.inl ⟨by kernel_rfl, ?_⟩) hHeld ?_
        rotate_left 1
        · (intro v hSw; (try dsimp only at hSw); clear hSw; go_simp; (try with_reducible rfl))
        try simp only [Act.put, List.setIfInBounds_toArray, List.set_cons_zero, List.set_cons_succ]
        refine takeH 9 15 (v := ?_) rfl rfl (by kernel_rfl) (by kernel_rfl) (by kernel_rfl) (fun _ _ _ h => h) (Or.inl ⟨by kernel_rfl, ?_⟩) hHeld ?_
        rotate_left 1
        · (intro v hSw; (try dsimp only at hSw); clear hSw; go_simp; (try with_reducible rfl))
        try simp only [Act.put, List.setIfInBounds_toArray, List.set_cons_zero, List.set_cons_succ]
        refine takeH 10 16 (v := ?_) rfl rfl (by kernel_rfl) (by kernel_rfl) (by kernel_rfl) (fun _ _ _ h => h) (Or.inl ⟨by kernel_rfl, ?_⟩) hHeld ?_
        rotate_left 1
        · (intro v hSw; (try dsimp only at hSw); clear hSw; go_simp; (try with_reducible rfl))
        try simp only [Act.put, List.setIfInBounds_toArray, List.set_cons_zero, List.set_cons_succ]
        refine takeH 11 17 (v := ?_) rfl rfl (by kernel_rfl) (by kernel_rfl) (by kernel_rfl) (fun _ _ _ h => h) (Or.inl ⟨by kernel_rfl, ?_⟩) hHeld ?_
        rotate_left 1
        · (intro v hSw; (try dsimp only at hSw); have q0 := (hD.pure hSw).c0; clear hSw; go_simp; (try with_reducible rfl))
        try simp only [Act.put, List.setIfInBounds_toArray, List.set_cons_zero, List.set_cons_succ]
        refine takeH 12 18 (v := ?_) rfl rfl (by kernel_rfl) (by kernel_rfl) (by kernel_rfl) (fun _ _ _ h => h) (Or.inl ⟨by kernel_rfl, ?_⟩) hHeld ?_
        rotate_left 1
        · (intro v hSw; (try dsimp only at hSw); clear hSw; go_simp; (try with_reducible rfl))
        try simp only [Act.put, List.setIfInBounds_toArray, List.set_cons_zero, List.set_cons_succ]
        refine takeH 13 19 (v := ?_) rfl rfl (by kernel_rfl) (by kernel_rfl) (by kernel_rfl) (fun _ _ _ h => h) (Or.inl ⟨by kernel_rfl, ?_⟩) hHeld ?_
        rotate_left 1
        · (intro v hSw; (try dsimp only at hSw); clear hSw; go_simp; (try with_reducible rfl))
        try simp only [Act.put, List.setIfInBounds_toArray, List.set_cons_zero, List.set_cons_succ]
        refine takeH 14 20 (v := ?_) rfl rfl (by kernel_rfl) (by kernel_rfl) (by kernel_rfl) (fun _ _ _ h => h) (Or.inl ⟨by kernel_rfl, ?_⟩) hHeld ?_
        rotate_left 1
        · (intro v hSw; (try dsimp only at hSw); clear hSw; go_simp; (try with_reducible rfl))
        try simp only [Act.put, List.setIfInBounds_toArray, List.set_cons_zero, List.set_cons_succ]
        refine takeH 15 21 (v := ?_) rfl rfl (by kernel_rfl) (by kernel_rfl) (by kernel_rfl) (fun _ _ _ h => h) (Or.inl ⟨by kernel_rfl, ?_⟩) hHeld ?_
        rotate_left 1
        · (intro v hSw; (try dsimp only at hSw); have q0 := (hSw.cell (World.block_lt_of_cell? wr _ hc0)).trans hc0; clear hSw; go_simp; (try with_reducible rfl))
        try simp only [Act.put, List.setIfInBounds_toArray, List.set_cons_zero, List.set_cons_succ]
        refine takeH 16 22 (v := ?_) rfl rfl (by kernel_rfl) (by kernel_rfl) (by kernel_rfl) (fun _ _ _ h => h) (Or.inl ⟨by kernel_rfl, ?_⟩) hHeld ?_
        rotate_left 1
        · (intro v hSw; (try dsimp only at hSw); clear hSw; go_simp; (try with_reducible rfl))
        try simp only [Act.put, List.setIfInBounds_toArray, List.set_cons_zero, List.set_cons_succ]
        refine takeH 17 23 (v := ?_) rfl rfl (by kernel_rfl) (by kernel_rfl) (by kernel_rfl) (fun _ _ _ h => h) (Or.inl ⟨by kernel_rfl, ?_⟩) hHeld ?_
        rotate_left 1
        · (intro v hSw; (try dsimp only at hSw); have q0 := (hX.pure hSw).at 0 rfl; clear hSw; go_simp; (try with_reducible rfl))
        try simp only [Act.put, List.setIfInBounds_toArray, List.set_cons_zero, List.set_cons_succ]
        refine takeH 18 24 (v := ?_) rfl rfl (by kernel_rfl) (by kernel_rfl) (by kernel_rfl) (fun _ _ _ h => h) (Or.inl ⟨by kernel_rfl, ?_⟩) hHeld ?_
        rotate_left 1
        · (intro v hSw; (try dsimp only at hSw); clear hSw; go_simp; (try with_reducible rfl))
        try simp only [Act.put, List.setIfInBounds_toArray, List.set_cons_zero, List.set_cons_succ]
        refine takeH 19 25 (v := ?_) rfl rfl (by kernel_rfl) (by kernel_rfl) (by kernel_rfl) (fun _ _ _ h => h) (Or.inl ⟨by kernel_rfl, ?_⟩) hHeld ?_
        rotate_left 1
        · (intro v hSw; (try dsimp only at hSw); clear hSw; go_simp; (try with_reducible rfl))
        try simp only [Act.put, List.setIfInBounds_toArray, List.set_cons_zero, List.set_cons_succ]
        refine wpAnyH_done (by kernel_rfl) ?_ _
        clear hHeld
        go_wp2
        go_roundw
        case rel => exact ⟨k + 1, by omega, by go_num, hB.trans (((Below.refl _ wr).drew).mono hB.size), fun j h hj => by
          rcases Nat.lt_or_ge j k with q | q
          · exact hall'.out j h q
          · obtain rfl : j = k := by omega
            exact hnl'.out⟩
        case measure => simp [intOf]; omega
    · have hstop : ∀ h : k < s.L.length, ¬ ltN s.L[k].n f.n := fun h => absurd h hlt
      have hstop' := Lib.hid hstop; clear hstop
      have c0 := hD.c0
      have hb : True := trivial
      go_wp2
      have hb := ((Below.refl _ wr).drew : Below wr.heap.size wr wr.drew)
      refine wp_region_held_drew (S := fun v => Below wr.heap.size wr v) (by kernel_rfl) hb (fun hHeld => ?_)
      refine takeH 0 6 (v := ?_) rfl rfl (by kernel_rfl) (by kernel_rfl) (by kernel_rfl) (fun _ _ _ h => h) (Or.inl ⟨by kernel_rfl, ?_⟩) hHeld ?_
      rotate_left 1
      · (intro v hSw; (try dsimp only at hSw); clear hSw; go_simp; (try with_reducible rfl))
      try simp only [Act.put, List.setIfInBounds_toArray, List.set_cons_zero, List.set_cons_succ]
      refine takeH 1 7 (v := ?_) rfl rfl (by kernel_rfl) (by kernel_rfl) (by kernel_rfl) (fun _ _ _ h => h) (Or.inl ⟨by kernel_rfl, ?_⟩) hHeld ?_
      rotate_left 1
      · (intro v hSw; (try dsimp only at hSw); clear hSw; go_simp; (try with_reducible rfl))
      try simp only [Act.put, List.setIfInBounds_toArray, List.set_cons_zero, List.set_cons_succ]
      refine takeH 2 8 (v := ?_) rfl rfl (by kernel_rfl) (by kernel_rfl) (by kernel_rfl) (fun _ _ _ h => h) (Or.inl ⟨by kernel_rfl, ?_⟩) hHeld ?_
      rotate_left 1
      · (intro v hSw; (try dsimp only at hSw); clear hSw; go_simp; (try with_reducible rfl))
      try simp only [Act.put, List.setIfInBounds_toArray, List.set_cons_zero, List.set_cons_succ]
      refine takeH 3 9 (v := ?_) rfl rfl (by kernel_rfl) (by kernel_rfl) (by kernel_rfl) (fun _ _ _ h => h) (Or.inl ⟨by kernel_rfl, ?_⟩) hHeld ?_
      rotate_left 1
      · (intro v hSw; (try dsimp only at hSw); clear hSw; go_simp; (try with_reducible rfl))
      try simp only [Act.put, List.setIfInBounds_toArray, List.set_cons_zero, List.set_cons_succ]
      refine takeH 4 10 (v := ?_) rfl rfl (by kernel_rfl) (by kernel_rfl) (by kernel_rfl) (fun _ _ _ h => h) (Or.inl ⟨by kernel_rfl, ?_⟩) hHeld ?_
      rotate_left 1
      · (intro v hSw; (try dsimp only at hSw); have q0 := (hD.pure hSw).c0; clear hSw; go_simp; (try with_reducible rfl))
      try simp only [Act.put, List.setIfInBounds_toArray, List.set_cons_zero, List.set_cons_succ]
      refine takeH 5 11 (v := ?_) rfl rfl (by kernel_rfl) (by kernel_rfl) (by kernel_rfl) (fun _ _ _ h => h) (Or.inl ⟨by kernel_rfl, ?_⟩) hHeld ?_
      rotate_left 1
      · (intro v hSw; (try dsimp only at hSw); clear hSw; go_simp; (try with_reducible rfl))
      try simp only [Act.put, List.setIfInBounds_toArray, List.set_cons_zero, List.set_cons_succ]
      refine takeH 6 12 (v := ?_) rfl rfl (by kernel_rfl) (by kernel_rfl) (by kernel_rfl) (fun _ _ _ h => h) (Or.inl ⟨by kernel_rfl, ?_⟩) hHeld ?_
      rotate_left 1
      · (intro v hSw; (try dsimp only at hSw); clear hSw; go_simp; (try with_reducible rfl))
      try simp only [Act.put, List.setIfInBounds_toArray, List.set_cons_zero, List.set_cons_succ]
      refine takeH 7 13 (v := ?_) rfl rfl (by kernel_rfl) (by kernel_rfl) (by kernel_rfl) (fun _ _ _ h => h) (Or.inl ⟨by kernel_rfl, ?_⟩) hHeld ?_
      rotate_left 1
      · (intro v hSw; (try dsimp only at hSw); clear hSw; go_simp; (try with_reducible rfl))
      try simp only [Act.put, List.setIfInBounds_toArray, List.set_cons_zero, List.set_cons_succ]
      refine takeH 8 14 (v := undef) rfl rfl (by kernel_rfl) (by kernel_rfl) (by kernel_rfl) (fun _ _ _ h => h) (Or.inr ⟨by kernel_rfl, rfl⟩) hHeld ?_
      try simp only [Act.put, List.setIfInBounds_toArray, List.set_cons_zero, List.set_cons_succ]
      refine takeH 9 15 (v := undef) rfl rfl (by kernel_rfl) (by kernel_rfl) (by kernel_rfl) (fun _ _ _ h => h) (Or.inr ⟨by kernel_rfl, rfl⟩) hHeld ?_
      try simp only [Act.put, List.setIfInBounds_toArray, List.set_cons_zero, List.set_cons_succ]
      refine takeH 10 16 (v := undef) rfl rfl (by kernel_rfl) (by kernel_rfl) (by kernel_rfl) (fun _ _ _ h => h) (Or.inr ⟨by kernel_rfl, rfl⟩) hHeld ?_
      try simp only [Act.put, List.setIfInBounds_toArray, List.set_cons_zero, List.set_cons_succ]
      refine takeH 11 17 (v := undef) rfl rfl (by kernel_rfl) (by kernel_rfl) (by kernel_rfl) (fun _ _ _ h => h) (Or.inr ⟨by kernel_rfl, rfl⟩) hHeld ?_
      try simp only [Act.put, List.setIfInBounds_toArray, List.set_cons_zero, List.set_cons_succ]
      refine takeH 12 18 (v := undef) rfl rfl (by kernel_rfl) (by kernel_rfl) (by kernel_rfl) (fun _ _ _ h => h) (Or.inr ⟨by kernel_rfl, rfl⟩) hHeld ?_
      try simp only [Act.put, List.setIfInBounds_toArray, List.set_cons_zero, List.set_cons_succ]
      refine takeH 13 19 (v := undef) rfl rfl (by kernel_rfl) (by kernel_rfl) (by kernel_rfl) (fun _ _ _ h => h) (Or.inr ⟨by kernel_rfl, rfl⟩) hHeld ?_
      try simp only [Act.put, List.setIfInBounds_toArray, List.set_cons_zero, List.set_cons_succ]
      refine takeH 14 20 (v := undef) rfl rfl (by kernel_rfl) (by kernel_rfl) (by kernel_rfl) (fun _ _ _ h => h) (Or.inr ⟨by kernel_rfl, rfl⟩) hHeld ?_
      try simp only [Act.put, List.setIfInBounds_toArray, List.set_cons_zero, List.set_cons_succ]
      refine takeH 15 21 (v := undef) rfl rfl (by kernel_rfl) (by kernel_rfl) (by kernel_rfl) (fun _ _ _ h => h) (Or.inr ⟨by kernel_rfl, rfl⟩) hHeld ?_
      try simp only [Act.put, List.setIfInBounds_toArray, List.set_cons_zero, List.set_cons_succ]
      refine takeH 16 22 (v := undef) rfl rfl (by kernel_rfl) (by kernel_rfl) (by kernel_rfl) (fun _ _ _ h => h) (Or.inr ⟨by kernel_rfl, rfl⟩) hHeld ?_
      try simp only [Act.put, List.setIfInBounds_toArray, List.set_cons_zero, List.set_cons_succ]
      refine takeH 17 23 (v := undef) rfl rfl (by kernel_rfl) (by kernel_rfl) (by kernel_rfl) (fun _ _ _ h => h) (Or.inr ⟨by kernel_rfl, rfl⟩) hHeld ?_
      try simp only [Act.put, List.setIfInBounds_toArray, List.set_cons_zero, List.set_cons_succ]
      refine takeH 18 24 (v := undef) rfl rfl (by kernel_rfl) (by kernel_rfl) (by kernel_rfl) (fun _ _ _ h => h) (Or.inr ⟨by kernel_rfl, rfl⟩) hHeld ?_
      try simp only [Act.put, List.setIfInBounds_toArray, List.set_cons_zero, List.set_cons_succ]
      refine takeH 19 25 (v := ?_) rfl rfl (by kernel_rfl) (by kernel_rfl) (by kernel_rfl) (fun _ _ _ h => h) (Or.inl ⟨by kernel_rfl, ?_⟩) hHeld ?_
      rotate_left 1
      · (intro v hSw; (try dsimp only at hSw); clear hSw; go_simp; (try with_reducible rfl))
      try simp only [Act.put, List.setIfInBounds_toArray, List.set_cons_zero, List.set_cons_succ]
      refine wpAnyH_done (by kernel_rfl) ?_ _
      clear hHeld
      have hb2 : Below wr.heap.size wr wr.drew := (Below.refl _ wr).drew
      obtain ⟨V, hV⟩ : ∃ V, V = wr.drew := ⟨_, rfl⟩
      have BV : Below W.heap.size W V := by rw [hV]; exact hB.trans (hb2.mono hB.size)
      have hsz : V.heap.size = wr.heap.size := by rw [hV]; rfl
      rw [← hV]
      clear hV hb2
      have hDV := hD0.pure BV
      have hXV := hX0.pure BV
      have cV := hDV.c0
      have hSV := hDV.slc
      have xV0 := hXV.at 0 rfl
      have xV1 := hXV.at 1 rfl
      have xV2 := hXV.at 2 rfl
      have AV := hT0.trans (BV.mono hT0.size)
      have hzV := AV.size
      have hl1 : (s.L.take k).length ≤ k := by rw [List.length_take]; omega
      have hk2 : (s.L.take k).length = k := by rw [List.length_take]; omega
      have hl2 : (s.L.drop k).length ≤ s.L.length := by rw [List.length_drop]; omega
      clear hD hX c0
      go_wp2_with (first
        | (refine wpList_slc_h (x := .tmp 32) (y := .tmp 33) (u := k) rfl rfl elem_fl rfl hSV rfl (by rfl) (by omega) ?_; intro v1 hs1)
        | (refine wpList_slc_l (x := .tmp 45) (y := .tmp 46) (l := k) rfl rfl elem_fl rfl hS3 rfl (by rfl) (by omega) ?_; intro v2 hs2)
        | (at_builtin; refine wpList_app (base := w.heap.size) rfl (.tmp 28) (.tmp 34) 57 66 rfl elem_fl flEnc_len flEnc_one (.slice none 0 0) [] rfl Own.nil v1 (s.L.take k) rfl hs1 (by simp; unfold maxLen; omega) (by simp; omega) hzV ?_; intro va w1 hO1 hg1 hv1 _; rw [List.nil_append] at hO1; have B1 : Below V.heap.size V w1 := (Below.refl _ _).grown hg1 (Nat.le_refl _) (fun j e => by cases e); have A1 := AV.trans (B1.mono AV.size); have x1 := hXV.pure B1; have y0 := x1.at 0 rfl; have y1 := x1.at 1 rfl; have y2 := x1.at 2 rfl; have hz1 := A1.size; have hva : ∀ j, va.ownBlock = some j → V.heap.size ≤ j := fun j e => by (rcases hv1 with h | h <;> rw [h] at e); cases e; (injection e with e; omega))
        | (at_builtin; refine wpList_app1 rfl (.tmp 36) (.tmp 38) 57 66 rfl elem_fl flEnc_len flEnc_one va (s.L.take k) rfl (hO1.alloc _) w1.heap.size 1 f rfl (fun j u hu => ((Blk.new w1 [.string f.n, .string f.b, .int .i64 f.s] 66).cell j).trans hu) (by omega) (by unfold maxLen; omega) (by simp; omega) ?_; intro g3 cap3 w3 hO3 hg3 hv3; rw [hk2] at hO3; have A3 : Below w.heap.size w w3 := (A1.alloc A1.size _).grown hg3 (by simp; omega) (fun j e => hO1.ge e); have hD3 := hq0.out.pure A3; have hS3 := hD3.slc; have d0 := hD3.c0; have hz3 := A3.size)
        | (at_builtin; refine wpList_app (base := w.heap.size) rfl (.tmp 41) (.tmp 47) 57 66 rfl elem_fl flEnc_len flEnc_one _ (s.L.take k ++ [f]) rfl hO3 v2 (s.L.drop k) rfl hs2 (by simp only [List.length_append, List.length_cons, List.length_nil]; unfold maxLen; omega) (by simp only [List.length_append, List.length_cons, List.length_nil]; omega) hz3 ?_; intro vb w5 hO5 hg5 hv5 _; have A5 : Below w.heap.size w w5 := A3.grown hg5 A3.size (fun j e => hO3.ge e); have hD5 := hq0.out.pure A5; have e0 := hD5.c0; have e1 := hD5.1.frozen 0; obtain ⟨ba, bn, bc, rfl⟩ := hO5.shape3))
      go_end0
      have hset := fin'.out wr (Below.refl _ _) hstop'.out
      rw [← hset] at hO5
      exact ⟨rfl, DT.laid hq0.out A5 hO5⟩
end Go.Proofs.Ytgpdbifgbabnnaa
