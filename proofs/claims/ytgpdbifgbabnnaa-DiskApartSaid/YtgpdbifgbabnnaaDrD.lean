/- The document's disk: Wake, Copy. Conditions: the disk is right, of less than a million files; the handed slice is apart from the disk. Written by gen_drD.py. -/
import Derived.Test.YtgpdbifgbabnnaaDrC
namespace Go.Proofs.Ytgpdbifgbabnnaa
open Go.RowKit
set_option linter.unusedVariables false
set_option linter.unusedSimpArgs false
def moreD (f : Fl) (k : Option Int) : Int := match k with | some v => minI (maxI v 0) (f.b.size - f.s) | none => 0
theorem keepF_moreD (f : Fl) (k : Option Int) : keepF f k = ⟨f.n, cutB f.b (f.s + moreD f k), f.s + moreD f k⟩ := by unfold keepF moreD; rfl
theorem Slc.atd {α : Type} {enc : α → List Value} {m : Nat} {w : World} {v : Value} {L : List α} (h : Slc enc m w v L) (i : Nat) (hi : i < L.length) : ∃ g off cap, v = .slice (some ⟨g, off, none⟩) L.length cap ∧ ∀ j u, (enc L[i])[j]? = some u → w.cell? ⟨g, off + i * m + j, none⟩ = some u := by
  rcases h with ⟨a, cap, rfl, _, rfl⟩ | ⟨g, off, cap, rfl, h1, h2, hc⟩
  · simp at hi
  · exact ⟨g, off, cap, rfl, fun j u hu => Slc.get (.inr ⟨g, off, cap, rfl, h1, h2, hc⟩) i hi j u hu⟩
theorem wk_setd {L : List Fl} {K : List Int} {k : Nat} (hr : Rises L) (h : k < L.length) (f : Fl) (e : keepF L[k] K[k]? = f) : (wk L K k).set k f = wk L K (k + 1) := by
  have h' : k < (wk L K k).length := by rw [wk_len]; exact h
  rw [← wk_set hr h, e, setF_at (wk_rises hr) h' (by rw [wk_at h h', ← e, keepF_n])]
/-- Three cells of a file are written: the whole file. -/
theorem DD.row3 {w : World} {q g n cap : Nat} {s : DS} (h : DD w q (.slice (some ⟨g, 0, none⟩) n cap) s) (k : Nat) (hk : k < s.L.length) (f : Fl) :
    DD (((w.setCell ⟨g, k * 3, none⟩ (.string f.n)).setCell ⟨g, k * 3 + 1, none⟩ (.string f.b)).setCell ⟨g, k * 3 + 2, none⟩ (.int .i64 f.s)) q (.slice (some ⟨g, 0, none⟩) n cap) { s with L := s.L.set k f } ∧
    Upd (fun i => i = g) w (((w.setCell ⟨g, k * 3, none⟩ (.string f.n)).setCell ⟨g, k * 3 + 1, none⟩ (.string f.b)).setCell ⟨g, k * 3 + 2, none⟩ (.int .i64 f.s)) := by
  have h1 := h.store k hk 0 (.string f.n) ⟨f.n, s.L[k].b, s.L[k].s⟩ (by omega) rfl
  have hk1 : k < (s.L.set k ⟨f.n, s.L[k].b, s.L[k].s⟩).length := by rw [List.length_set]; exact hk
  have h2 := h1.store k hk1 1 (.string f.b) ⟨f.n, f.b, s.L[k].s⟩ (by omega) (by simp [flEnc])
  have hk2 : k < ((s.L.set k ⟨f.n, s.L[k].b, s.L[k].s⟩).set k ⟨f.n, f.b, s.L[k].s⟩).length := by simpa using hk
  have h3 := h2.store k hk2 2 (.int .i64 f.s) f (by omega) (by simp [flEnc])
  refine ⟨?_, ((Upd.set (S := fun i => i = g) (p := ⟨g, k * 3, none⟩) rfl _).trans (Upd.set (S := fun i => i = g) (p := ⟨g, k * 3 + 1, none⟩) rfl _) (fun i hi _ => hi)).trans (Upd.set (S := fun i => i = g) (p := ⟨g, k * 3 + 2, none⟩) rfl _) (fun i hi _ => hi)⟩
  simp only [List.set_set, Nat.add_zero] at h3
  exact h3

set_option maxRecDepth 100000 in
set_option maxHeartbeats 12800000 in
theorem dwake_any (w : World) (q : Nat) (v : Value) (s : DS) (kv : Value) (K : List Int) (h : DD w q v s) (ho : DOk s) (hL : s.L.length < 1000000) (hK : Slc (intEnc .i64) 1 w kv K) (hKb : K.length ≠ 0 → ∀ i, kv.ownBlock = some i → ¬ DQ q v i) :
    Calls Try.prog 37 #[.pointer (some ⟨q, 0, none⟩), kv] w fun e w' => e = .returned (.tuple #[]) ∧ DT w w' q v (waD s K) := by
  have c0 := h.c0
  have c3 := h.c3
  have f3 := h.1.frozen 3
  obtain ⟨ka, kc, rfl, hmk⟩ := hK.len
  obtain ⟨a, c, rfl⟩ := h.2.1.lens
  cases hoff : s.off
  · rw [hoff] at c3
    have e1 : waD s K = s := by unfold waD; rw [if_neg (by rw [hoff]; simp)]
    rw [e1]
    go_enter Try.func37, Try.ntmps37
    go_wp2
    refine bodyPost_ret (results_none rfl _ _ _) rfl ?_
    exact ⟨rfl, DT.stay h (Below.refl _ _)⟩
  · rw [hoff] at c3
    have e1 : waD s K = { s with off := false, L := keepL s.L K } := by unfold waD; rw [if_pos hoff]
    rw [e1]
    obtain ⟨W, hW⟩ : ∃ W, W = w.setCell ⟨q, 3, none⟩ (.bool false) := ⟨_, rfl⟩
    have D0 : DD W q (.slice a s.L.length c) { s with off := false } := by rw [hW]; exact ⟨h.1.set 3 (.bool false), h.2.1.other _ _ (fun k hk e => h.2.2 (by rw [hk, e])), h.2.2⟩
    have U0 : Upd (DQ q (.slice a s.L.length c)) w W := by rw [hW]; exact Upd.set (S := DQ q (.slice a s.L.length c)) (p := ⟨q, 3, none⟩) (.inl rfl) _
    have hoo := Lib.hid ho; clear ho
    have hKK := Lib.hid hK; clear hK
    have hKb' := Lib.hid hKb; clear hKb
    have hq0 := h.2.2
    go_enter Try.func37, Try.ntmps37
    go_wp2
    rw [← hW]
    clear hW c0 c3 f3 h e1 hoff
    have hzw := U0.size
    go_loopw [4, 5, 6] (fun s4 _ _ wr => ∃ k : Nat, k ≤ s.L.length ∧ s4 = .int .i64 k ∧ DD wr q (.slice a s.L.length c) { s with off := false, L := wk s.L K k } ∧ Upd (DQ q (.slice a s.L.length c)) W wr)
      (fun s4 _ _ _ => s.L.length - (intOf s4).toNat)
    case atStart => exact ⟨0, by omega, rfl, by rw [wk_zero]; exact D0, Upd.refl _ _⟩
    case round =>
      obtain ⟨k, hk, rfl, hD, hU⟩ := hrel
      have hUl := hU.size
      have c0 := hD.c0
      by_cases hlt : k < s.L.length
      · obtain ⟨f, hf⟩ : ∃ f, s.L[k] = f := ⟨_, rfl⟩
        have hwk : k < (wk s.L K k).length := by rw [wk_len]; exact hlt
        obtain ⟨g, cap, ev, hc, hfz⟩ := Own.atd flEnc_len hD.2.1 k hwk
        have hfw : (wk s.L K k)[k] = f := by rw [wk_at hlt hwk, hf]
        simp only [hfw] at hc
        have hc0 := hc 0 (.string f.n) rfl; have hc1 := hc 1 (.string f.b) rfl; have hc2 := hc 2 (.int .i64 f.s) rfl
        have ev2 : (wk s.L K k).length = s.L.length := wk_len _ _ _
        simp only [ev2, Value.slice.injEq, Nat.add_zero, and_true, true_and] at ev hc0
        obtain ⟨rfl, rfl⟩ := ev
        clear hc ev2
        have hfo := hoo.out.file f (by rw [← hf]; exact List.getElem_mem hlt)
        have hmo : ∃ M, M = moreD f K[k]? ∧ 0 ≤ M ∧ M ≤ f.b.size - f.s := ⟨_, rfl, by
          unfold moreD
          cases K[k]? with
          | none => simp
          | some v => have h1 := maxI_ge v 0; have h2 := minI_le (maxI v 0) (f.b.size - f.s); show 0 ≤ minI (maxI v 0) (f.b.size - f.s); have := hfo.2.2.1; omega, by
          unfold moreD
          cases K[k]? with
          | none => simp; have := hfo.2.2.1; omega
          | some v => have h2 := minI_le (maxI v 0) (f.b.size - f.s); exact h2.2.1⟩
        obtain ⟨M, hM, hM0, hM1⟩ := hmo
        have hkf := keepF_moreD f K[k]?
        rw [← hM] at hkf
        have hset := wk_setd (K := K) hoo.out.rise hlt ⟨f.n, cutB f.b (f.s + M), f.s + M⟩ (by rw [hf]; exact hkf)
        have hset' := Lib.hid hset; clear hset hkf
        obtain ⟨fn0, fs0, fs1, fz⟩ := hfo
        have hqg : q ≠ g := fun e => hD.2.2 (by rw [e]; rfl)
        have Ba : Below wr.heap.size wr (wr.alloc (.cells #[.string f.n, .string f.b, .int .i64 f.s] 66)) := (Below.refl _ wr).alloc (Nat.le_refl _) _
        have Xa : Blk (wr.alloc (.cells #[.string f.n, .string f.b, .int .i64 f.s] 66)) wr.heap.size [.string f.n, .string f.b, .int .i64 f.s] := Blk.new wr [.string f.n, .string f.b, .int .i64 f.s] 66
        have hwr1 : IntKind.i64.wrap (f.s + M) = f.s + M := IntWalk.i64_in _ (by omega)
        have hz1 : 0 ≤ f.s + M := by omega
        have hz2 : f.s + M ≤ (f.b.size : Int) := by omega
        by_cases hik : k < K.length
        · skip
          have hkc := (hKK.out.upd (U0.trans hU (fun i hi _ => hi)) (hKb'.out (by omega))).atd k hik
          obtain ⟨kg, koff, kcap, ekv, hkc⟩ := hkc
          have hkc0 := hkc 0 (.int .i64 K[k]) rfl
          simp only [Value.slice.injEq, Nat.mul_one, Nat.add_zero, and_true, true_and] at ekv hkc0
          obtain ⟨rfl, rfl⟩ := ekv
          clear hkc
          rw [List.getElem?_eq_getElem hik] at hM
          obtain ⟨kvv, hkv⟩ : ∃ kvv, K[k] = kvv := ⟨_, rfl⟩
          rw [hkv] at hM hkc0
          have hmx : (if kvv < 0 then (0 : Int) else kvv) = maxI kvv 0 := by unfold maxI; split <;> split <;> omega
          have hmn : (if (f.b.size : Int) - f.s < maxI kvv 0 then (f.b.size : Int) - f.s else maxI kvv 0) = M := by rw [hM]; show _ = minI (maxI kvv 0) (f.b.size - f.s); unfold minI; split <;> split <;> omega
          obtain ⟨mx, hmx1⟩ : ∃ mx, maxI kvv 0 = mx := ⟨_, rfl⟩
          rw [hmx1] at hmx hmn
          have hM' := Lib.hid hM; clear hM hmx1 hkv
          have hmx' := Lib.hid hmx; have hmn' := Lib.hid hmn; clear hmx hmn
          go_wp2
          obtain ⟨V, hV⟩ : ∃ V, V = wr.alloc (.cells #[.string f.n, .string f.b, .int .i64 f.s] 66) := ⟨_, rfl⟩
          rw [← hV] at Ba Xa ⊢
          clear hV
          have DV := hD.pure Ba
          have hzV := Ba.size
          have x0 := Xa.at 0 rfl; have x1 := Xa.at 1 rfl; have x2 := Xa.at 2 rfl; have xf := fun j => Xa.frozen j
          have hkcV := (Ba.cell (World.block_lt_of_cell? wr _ hkc0)).trans hkc0
          have hwr0 : IntKind.i64.wrap ((f.b.size : Int) - f.s) = (f.b.size : Int) - f.s := IntWalk.i64_in _ (by omega)
          have hb := ((Below.refl _ V).drew : Below V.heap.size V V.drew)
          refine wp_region_held_drew (S := fun v => Below V.heap.size V v) (by kernel_rfl) hb (fun hHeld => ?_)
          refine takeH 0 35 (v := ?_) rfl rfl (by kernel_rfl) (by kernel_rfl) (by kernel_rfl) (fun _ _ _ h => h) (Or.inl ⟨by kernel_rfl, ?_⟩) hHeld ?_
          rotate_left 1
          · (intro v hSw; (try dsimp only at hSw); clear hSw; go_simp; (try with_reducible rfl))
          try simp only [Act.put, List.setIfInBounds_toArray, List.set_cons_zero, List.set_cons_succ]
          refine takeH 1 36 (v := ?_) rfl rfl (by kernel_rfl) (by kernel_rfl) (by kernel_rfl) (fun _ _ _ h => h) (Or.inl ⟨by kernel_rfl, ?_⟩) hHeld ?_
          rotate_left 1
          · (intro v hSw; (try dsimp only at hSw); clear hSw; go_simp; (try with_reducible rfl))
          try simp only [Act.put, List.setIfInBounds_toArray, List.set_cons_zero, List.set_cons_succ]
          refine takeH 2 37 (v := ?_) rfl rfl (by kernel_rfl) (by kernel_rfl) (by kernel_rfl) (fun _ _ _ h => h) (Or.inl ⟨by kernel_rfl, ?_⟩) hHeld ?_
          rotate_left 1
          · (intro v hSw; (try dsimp only at hSw); clear hSw; go_simp; (try with_reducible rfl))
          try simp only [Act.put, List.setIfInBounds_toArray, List.set_cons_zero, List.set_cons_succ]
          refine takeH 3 38 (v := ?_) rfl rfl (by kernel_rfl) (by kernel_rfl) (by kernel_rfl) (fun _ _ _ h => h) (Or.inl ⟨by kernel_rfl, ?_⟩) hHeld ?_
          rotate_left 1
          · (intro v hSw; (try dsimp only at hSw); have q0 := (hSw.cell (World.block_lt_of_cell? V _ hkcV)).trans hkcV; clear hSw; go_simp; (try with_reducible rfl))
          try simp only [Act.put, List.setIfInBounds_toArray, List.set_cons_zero, List.set_cons_succ]
          refine takeH 4 39 (v := ?_) rfl rfl (by kernel_rfl) (by kernel_rfl) (by kernel_rfl) (fun _ _ _ h => h) (Or.inl ⟨by kernel_rfl, ?_⟩) hHeld ?_
          rotate_left 1
          · (intro v hSw; (try dsimp only at hSw); have q1 := hmx'.out; clear hSw; go_simp; (try with_reducible rfl))
          try simp only [Act.put, List.setIfInBounds_toArray, List.set_cons_zero, List.set_cons_succ]
          refine takeH 5 40 (v := ?_) rfl rfl (by kernel_rfl) (by kernel_rfl) (by kernel_rfl) (fun _ _ _ h => h) (Or.inl ⟨by kernel_rfl, ?_⟩) hHeld ?_
          rotate_left 1
          · (intro v hSw; (try dsimp only at hSw); clear hSw; go_simp; (try with_reducible rfl))
          try simp only [Act.put, List.setIfInBounds_toArray, List.set_cons_zero, List.set_cons_succ]
          refine takeH 6 41 (v := ?_) rfl rfl (by kernel_rfl) (by kernel_rfl) (by kernel_rfl) (fun _ _ _ h => h) (Or.inl ⟨by kernel_rfl, ?_⟩) hHeld ?_
          rotate_left 1
          · (intro v hSw; (try dsimp only at hSw); have q0 := (Xa.pure hSw).at 1 rfl; clear hSw; go_simp; (try with_reducible rfl))
          try simp only [Act.put, List.setIfInBounds_toArray, List.set_cons_zero, List.set_cons_succ]
          refine takeH 7 42 (v := ?_) rfl rfl (by kernel_rfl) (by kernel_rfl) (by kernel_rfl) (fun _ _ _ h => h) (Or.inl ⟨by kernel_rfl, ?_⟩) hHeld ?_
          rotate_left 1
          · (intro v hSw; (try dsimp only at hSw); clear hSw; go_simp; (try with_reducible rfl))
          try simp only [Act.put, List.setIfInBounds_toArray, List.set_cons_zero, List.set_cons_succ]
          refine takeH 8 43 (v := ?_) rfl rfl (by kernel_rfl) (by kernel_rfl) (by kernel_rfl) (fun _ _ _ h => h) (Or.inl ⟨by kernel_rfl, ?_⟩) hHeld ?_
          rotate_left 1
          · (intro v hSw; (try dsimp only at hSw); clear hSw; go_simp; (try with_reducible rfl))
          try simp only [Act.put, List.setIfInBounds_toArray, List.set_cons_zero, List.set_cons_succ]
          refine takeH 9 44 (v := ?_) rfl rfl (by kernel_rfl) (by kernel_rfl) (by kernel_rfl) (fun _ _ _ h => h) (Or.inl ⟨by kernel_rfl, ?_⟩) hHeld ?_
          rotate_left 1
          · (intro v hSw; (try dsimp only at hSw); have q0 := (Xa.pure hSw).at 2 rfl; clear hSw; go_simp; (try with_reducible rfl))
          try simp only [Act.put, List.setIfInBounds_toArray, List.set_cons_zero, List.set_cons_succ]
          refine takeH 10 45 (v := ?_) rfl rfl (by kernel_rfl) (by kernel_rfl) (by kernel_rfl) (fun _ _ _ h => h) (Or.inl ⟨by kernel_rfl, ?_⟩) hHeld ?_
          rotate_left 1
          · (intro v hSw; (try dsimp only at hSw); have q1 := hwr0; clear hSw; go_simp; (try with_reducible rfl))
          try simp only [Act.put, List.setIfInBounds_toArray, List.set_cons_zero, List.set_cons_succ]
          refine takeH 11 46 (v := ?_) rfl rfl (by kernel_rfl) (by kernel_rfl) (by kernel_rfl) (fun _ _ _ h => h) (Or.inl ⟨by kernel_rfl, ?_⟩) hHeld ?_
          rotate_left 1
          · (intro v hSw; (try dsimp only at hSw); have q1 := hmn'.out; clear hSw; go_simp; (try with_reducible rfl))
          try simp only [Act.put, List.setIfInBounds_toArray, List.set_cons_zero, List.set_cons_succ]
          refine takeH 12 6 (v := ?_) rfl rfl (by kernel_rfl) (by kernel_rfl) (by kernel_rfl) (fun _ _ _ h => h) (Or.inl ⟨by kernel_rfl, ?_⟩) hHeld ?_
          rotate_left 1
          · (intro v hSw; (try dsimp only at hSw); clear hSw; go_simp; (try with_reducible rfl))
          try simp only [Act.put, List.setIfInBounds_toArray, List.set_cons_zero, List.set_cons_succ]
          refine wpAnyH_done (by kernel_rfl) ?_ _
          obtain ⟨X, hX⟩ : ∃ X, X = V.drew := ⟨_, rfl⟩
          have kx : Blk X wr.heap.size [.string f.n, .string f.b, .int .i64 f.s] := by rw [hX]; exact Xa.drew
          have BX : Below wr.heap.size wr X := by rw [hX]; exact Ba.drew
          rw [← hX]
          clear hHeld hb hX hkcV x0 x1 x2 xf hwr0
          obtain ⟨Y, hY⟩ : ∃ Y, Y = ((X.setCell ⟨wr.heap.size, 2, none⟩ (.int .i64 (f.s + M))).setCell ⟨wr.heap.size, 1, none⟩ (.string (cutB f.b (f.s + M)))) := ⟨_, rfl⟩
          have KY : Blk Y wr.heap.size [.string f.n, .string (cutB f.b (f.s + M)), .int .i64 (f.s + M)] := by rw [hY]; exact (kx.set 2 (.int .i64 (f.s + M))).set 1 (.string (cutB f.b (f.s + M)))
          have BY : Below wr.heap.size wr Y := by rw [hY]; exact (BX.setCell (Nat.le_refl _) _).setCell (Nat.le_refl _) _
          have DY := hD.pure BY
          have hYs := BY.size
          have k0 := kx.at 0 rfl; have k1 := kx.at 1 rfl; have k2 := kx.at 2 rfl; have kfz := fun j => kx.frozen j
          unfold cutB at hY
          go_wp2
          rw [← hY]
          clear hY k0 k1 k2 kfz
          have dY := DY.c0; have hqY := DY.1.lt
          have y0 := KY.at 0 rfl; have y1 := KY.at 1 rfl; have y2 := KY.at 2 rfl
          have hwkY : k < (wk s.L K k).length := hwk
          have g0 : Y.cell? ⟨g, k * 3, none⟩ = some (.string f.n) := (BY.cell (World.block_lt_of_cell? wr _ hc0)).trans hc0
          have g1 : Y.cell? ⟨g, k * 3 + 1, none⟩ = some (.string f.b) := (BY.cell (World.block_lt_of_cell? wr _ hc1)).trans hc1
          have g2 : Y.cell? ⟨g, k * 3 + 2, none⟩ = some (.int .i64 f.s) := (BY.cell (World.block_lt_of_cell? wr _ hc2)).trans hc2
          have gfz := fun j => DY.2.1.frozen j
          have hb := dY
          refine wp_region_held_drew (S := fun v => v.cell? ⟨q, 0, none⟩ = some (.slice (some ⟨g, 0, none⟩) s.L.length c)) (by kernel_rfl) hb (fun hHeld => ?_)
          refine takeH 0 58 (v := ?_) rfl rfl (by kernel_rfl) (by kernel_rfl) (by kernel_rfl) (fun _ _ _ h => h) (Or.inl ⟨by kernel_rfl, ?_⟩) hHeld ?_
          rotate_left 1
          · (intro v hSw; (try dsimp only at hSw); clear hSw; go_simp; (try with_reducible rfl))
          try simp only [Act.put, List.setIfInBounds_toArray, List.set_cons_zero, List.set_cons_succ]
          refine takeH 1 59 (v := ?_) rfl rfl (by kernel_rfl) (by kernel_rfl) (by kernel_rfl) (fun _ _ _ h => h) (Or.inl ⟨by kernel_rfl, ?_⟩) hHeld ?_
          rotate_left 1
          · (intro v hSw; (try dsimp only at hSw); clear hSw; go_simp; (try with_reducible rfl))
          try simp only [Act.put, List.setIfInBounds_toArray, List.set_cons_zero, List.set_cons_succ]
          refine takeH 2 60 (v := ?_) rfl rfl (by kernel_rfl) (by kernel_rfl) (by kernel_rfl) (fun _ _ _ h => h) (Or.inl ⟨by kernel_rfl, ?_⟩) hHeld ?_
          rotate_left 1
          · (intro v hSw; (try dsimp only at hSw); clear hSw; go_simp; (try with_reducible rfl))
          try simp only [Act.put, List.setIfInBounds_toArray, List.set_cons_zero, List.set_cons_succ]
          refine takeH 3 61 (v := ?_) rfl rfl (by kernel_rfl) (by kernel_rfl) (by kernel_rfl) (fun _ _ _ h => h) (Or.inl ⟨by kernel_rfl, ?_⟩) hHeld ?_
          rotate_left 1
          · (intro v hSw; (try dsimp only at hSw); have q0 := hSw; clear hSw; go_simp; (try with_reducible rfl))
          try simp only [Act.put, List.setIfInBounds_toArray, List.set_cons_zero, List.set_cons_succ]
          refine takeH 4 62 (v := ?_) rfl rfl (by kernel_rfl) (by kernel_rfl) (by kernel_rfl) (fun _ _ _ h => h) (Or.inl ⟨by kernel_rfl, ?_⟩) hHeld ?_
          rotate_left 1
          · (intro v hSw; (try dsimp only at hSw); clear hSw; go_simp; (try with_reducible rfl))
          try simp only [Act.put, List.setIfInBounds_toArray, List.set_cons_zero, List.set_cons_succ]
          refine wpAnyH_ready (rs := [5]) (by kernel_rfl) (by simp) ?_
          refine AllReadyH.cons rfl (fun Kq hKq => ?_) AllReadyH.nil
          have q0 : Y.drew.cell? ⟨wr.heap.size, 0, none⟩ = _ := y0; have q1 : Y.drew.cell? ⟨wr.heap.size, 1, none⟩ = _ := y1; have q2 : Y.drew.cell? ⟨wr.heap.size, 2, none⟩ = _ := y2
          go_simp
          refine hKq.out _ _ hb (fun hHeld => ?_)
          clear hKq Kq
          try simp only [Act.put, List.setIfInBounds_toArray, List.set_cons_zero, List.set_cons_succ]
          refine takeH 6 64 (v := ?_) rfl rfl (by kernel_rfl) (by kernel_rfl) (by kernel_rfl) (fun _ _ _ h => h) (Or.inl ⟨by kernel_rfl, ?_⟩) hHeld ?_
          rotate_left 1
          · (intro v hSw; (try dsimp only at hSw); clear hSw; go_simp; (try with_reducible rfl))
          try simp only [Act.put, List.setIfInBounds_toArray, List.set_cons_zero, List.set_cons_succ]
          refine wpAnyH_ready (rs := [7]) (by kernel_rfl) (by simp) ?_
          refine AllReadyH.cons rfl (fun Kq hKq => ?_) AllReadyH.nil
          have q0 : Y.drew.cell? ⟨g, k * 3, none⟩ = _ := g0; have q1 : Y.drew.cell? ⟨g, k * 3 + 1, none⟩ = _ := g1; have q2 : Y.drew.cell? ⟨g, k * 3 + 2, none⟩ = _ := g2
          have q3 : ∀ j, Y.drew.frozen? ⟨g, j, none⟩ = false := gfz
          go_simp
          refine hKq.out _ _ ?_ (fun hHeld => ?_)
          · exact ((DY.row3 k hwkY ⟨f.n, cutB f.b (f.s + M), f.s + M⟩).2.cell (p := ⟨q, 0, none⟩) hqY hqg).trans dY
          clear hKq Kq
          try simp only [Act.put, List.setIfInBounds_toArray, List.set_cons_zero, List.set_cons_succ]
          refine wpAnyH_done (by kernel_rfl) ?_ _
          clear hHeld hb
          have hfin : DD ((((Y.setCell ⟨g, k * 3, none⟩ (.string f.n)).setCell ⟨g, k * 3 + 1, none⟩ (.string (cutB f.b (f.s + M)))).setCell ⟨g, k * 3 + 2, none⟩ (.int .i64 (f.s + M))).drew) q (.slice (some ⟨g, 0, none⟩) s.L.length c) { s with off := false, L := wk s.L K (k + 1) } := by
            have h9 := (DY.row3 k hwkY ⟨f.n, cutB f.b (f.s + M), f.s + M⟩).1.drew
            simp only at h9
            rw [hset'.out] at h9
            exact h9
          have hUf : Upd (DQ q (.slice (some ⟨g, 0, none⟩) s.L.length c)) W ((((Y.setCell ⟨g, k * 3, none⟩ (.string f.n)).setCell ⟨g, k * 3 + 1, none⟩ (.string (cutB f.b (f.s + M)))).setCell ⟨g, k * 3 + 2, none⟩ (.int .i64 (f.s + M))).drew) :=
            (hU.trans (Upd.of_below BY) (fun i hi _ => hi)).trans ((DY.row3 k hwkY ⟨f.n, cutB f.b (f.s + M), f.s + M⟩).2.drew) (fun i hi _ => .inr (by rw [hi]; rfl))
          have hfin' := Lib.hid hfin; have hUf' := Lib.hid hUf; clear hfin hUf
          go_wp2
          go_roundw
          case rel => exact ⟨k + 1, by omega, by go_num, hfin'.out, hUf'.out⟩
          case measure => simp [intOf]; omega
        · skip
          have hM2 : M = 0 := by rw [hM, List.getElem?_eq_none (by omega)]; rfl
          clear hM
          have eM : f.s + M = f.s := by omega
          have hset2 := hset'.out
          rw [eM] at hset2
          clear hset' hM2
          have hset' := Lib.hid hset2; clear hset2 hwr1 hz1 hz2 eM
          go_wp2
          obtain ⟨Y, hY⟩ : ∃ Y, Y = wr.alloc (.cells #[.string f.n, .string (cutB f.b f.s), .int .i64 f.s] 66) := ⟨_, rfl⟩
          have KY : Blk Y wr.heap.size [.string f.n, .string (cutB f.b f.s), .int .i64 f.s] := by rw [hY]; exact Blk.new wr [.string f.n, .string (cutB f.b f.s), .int .i64 f.s] 66
          have BY : Below wr.heap.size wr Y := by rw [hY]; exact (Below.refl _ wr).alloc (Nat.le_refl _) _
          have DY := hD.pure BY
          have hYs := BY.size
          unfold cutB at hY
          rw [← hY]
          clear hY
          have dY := DY.c0; have hqY := DY.1.lt
          have y0 := KY.at 0 rfl; have y1 := KY.at 1 rfl; have y2 := KY.at 2 rfl
          have hwkY : k < (wk s.L K k).length := hwk
          have g0 : Y.cell? ⟨g, k * 3, none⟩ = some (.string f.n) := (BY.cell (World.block_lt_of_cell? wr _ hc0)).trans hc0
          have g1 : Y.cell? ⟨g, k * 3 + 1, none⟩ = some (.string f.b) := (BY.cell (World.block_lt_of_cell? wr _ hc1)).trans hc1
          have g2 : Y.cell? ⟨g, k * 3 + 2, none⟩ = some (.int .i64 f.s) := (BY.cell (World.block_lt_of_cell? wr _ hc2)).trans hc2
          have gfz := fun j => DY.2.1.frozen j
          have hb := dY
          refine wp_region_held_drew (S := fun v => v.cell? ⟨q, 0, none⟩ = some (.slice (some ⟨g, 0, none⟩) s.L.length c)) (by kernel_rfl) hb (fun hHeld => ?_)
          refine takeH 0 58 (v := ?_) rfl rfl (by kernel_rfl) (by kernel_rfl) (by kernel_rfl) (fun _ _ _ h => h) (Or.inl ⟨by kernel_rfl, ?_⟩) hHeld ?_
          rotate_left 1
          · (intro v hSw; (try dsimp only at hSw); clear hSw; go_simp; (try with_reducible rfl))
          try simp only [Act.put, List.setIfInBounds_toArray, List.set_cons_zero, List.set_cons_succ]
          refine takeH 1 59 (v := ?_) rfl rfl (by kernel_rfl) (by kernel_rfl) (by kernel_rfl) (fun _ _ _ h => h) (Or.inl ⟨by kernel_rfl, ?_⟩) hHeld ?_
          rotate_left 1
          · (intro v hSw; (try dsimp only at hSw); clear hSw; go_simp; (try with_reducible rfl))
          try simp only [Act.put, List.setIfInBounds_toArray, List.set_cons_zero, List.set_cons_succ]
          refine takeH 2 60 (v := ?_) rfl rfl (by kernel_rfl) (by kernel_rfl) (by kernel_rfl) (fun _ _ _ h => h) (Or.inl ⟨by kernel_rfl, ?_⟩) hHeld ?_
          rotate_left 1
          · (intro v hSw; (try dsimp only at hSw); clear hSw; go_simp; (try with_reducible rfl))
          try simp only [Act.put, List.setIfInBounds_toArray, List.set_cons_zero, List.set_cons_succ]
          refine takeH 3 61 (v := ?_) rfl rfl (by kernel_rfl) (by kernel_rfl) (by kernel_rfl) (fun _ _ _ h => h) (Or.inl ⟨by kernel_rfl, ?_⟩) hHeld ?_
          rotate_left 1
          · (intro v hSw; (try dsimp only at hSw); have q0 := hSw; clear hSw; go_simp; (try with_reducible rfl))
          try simp only [Act.put, List.setIfInBounds_toArray, List.set_cons_zero, List.set_cons_succ]
          refine takeH 4 62 (v := ?_) rfl rfl (by kernel_rfl) (by kernel_rfl) (by kernel_rfl) (fun _ _ _ h => h) (Or.inl ⟨by kernel_rfl, ?_⟩) hHeld ?_
          rotate_left 1
          · (intro v hSw; (try dsimp only at hSw); clear hSw; go_simp; (try with_reducible rfl))
          try simp only [Act.put, List.setIfInBounds_toArray, List.set_cons_zero, List.set_cons_succ]
          refine wpAnyH_ready (rs := [5]) (by kernel_rfl) (by simp) ?_
          refine AllReadyH.cons rfl (fun Kq hKq => ?_) AllReadyH.nil
          have q0 : Y.drew.cell? ⟨wr.heap.size, 0, none⟩ = _ := y0; have q1 : Y.drew.cell? ⟨wr.heap.size, 1, none⟩ = _ := y1; have q2 : Y.drew.cell? ⟨wr.heap.size, 2, none⟩ = _ := y2
          go_simp
          refine hKq.out _ _ hb (fun hHeld => ?_)
          clear hKq Kq
          try simp only [Act.put, List.setIfInBounds_toArray, List.set_cons_zero, List.set_cons_succ]
          refine takeH 6 64 (v := ?_) rfl rfl (by kernel_rfl) (by kernel_rfl) (by kernel_rfl) (fun _ _ _ h => h) (Or.inl ⟨by kernel_rfl, ?_⟩) hHeld ?_
          rotate_left 1
          · (intro v hSw; (try dsimp only at hSw); clear hSw; go_simp; (try with_reducible rfl))
          try simp only [Act.put, List.setIfInBounds_toArray, List.set_cons_zero, List.set_cons_succ]
          refine wpAnyH_ready (rs := [7]) (by kernel_rfl) (by simp) ?_
          refine AllReadyH.cons rfl (fun Kq hKq => ?_) AllReadyH.nil
          have q0 : Y.drew.cell? ⟨g, k * 3, none⟩ = _ := g0; have q1 : Y.drew.cell? ⟨g, k * 3 + 1, none⟩ = _ := g1; have q2 : Y.drew.cell? ⟨g, k * 3 + 2, none⟩ = _ := g2
          have q3 : ∀ j, Y.drew.frozen? ⟨g, j, none⟩ = false := gfz
          go_simp
          refine hKq.out _ _ ?_ (fun hHeld => ?_)
          · exact ((DY.row3 k hwkY ⟨f.n, cutB f.b (f.s), f.s⟩).2.cell (p := ⟨q, 0, none⟩) hqY hqg).trans dY
          clear hKq Kq
          try simp only [Act.put, List.setIfInBounds_toArray, List.set_cons_zero, List.set_cons_succ]
          refine wpAnyH_done (by kernel_rfl) ?_ _
          clear hHeld hb
          have hfin : DD ((((Y.setCell ⟨g, k * 3, none⟩ (.string f.n)).setCell ⟨g, k * 3 + 1, none⟩ (.string (cutB f.b (f.s)))).setCell ⟨g, k * 3 + 2, none⟩ (.int .i64 (f.s))).drew) q (.slice (some ⟨g, 0, none⟩) s.L.length c) { s with off := false, L := wk s.L K (k + 1) } := by
            have h9 := (DY.row3 k hwkY ⟨f.n, cutB f.b (f.s), f.s⟩).1.drew
            simp only at h9
            rw [hset'.out] at h9
            exact h9
          have hUf : Upd (DQ q (.slice (some ⟨g, 0, none⟩) s.L.length c)) W ((((Y.setCell ⟨g, k * 3, none⟩ (.string f.n)).setCell ⟨g, k * 3 + 1, none⟩ (.string (cutB f.b (f.s)))).setCell ⟨g, k * 3 + 2, none⟩ (.int .i64 (f.s))).drew) :=
            (hU.trans (Upd.of_below BY) (fun i hi _ => hi)).trans ((DY.row3 k hwkY ⟨f.n, cutB f.b (f.s), f.s⟩).2.drew) (fun i hi _ => .inr (by rw [hi]; rfl))
          have hfin' := Lib.hid hfin; have hUf' := Lib.hid hUf; clear hfin hUf
          go_wp2
          go_roundw
          case rel => exact ⟨k + 1, by omega, by go_num, hfin'.out, hUf'.out⟩
          case measure => simp [intOf]; omega
      · obtain rfl : k = s.L.length := by omega
        go_wp2
        go_end0
        rw [wk_end] at hD
        exact ⟨rfl, _, hD, U0.trans hU (fun i hi _ => hi), fun i hi => .inl hi⟩
end Go.Proofs.Ytgpdbifgbabnnaa
