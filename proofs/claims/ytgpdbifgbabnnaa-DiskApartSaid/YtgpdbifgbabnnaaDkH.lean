/- Package disk: Wake. Conditions: the disk is right, of less than a million files; the handed slice is apart from the disk. Written by gen_dkH.py. -/
import Derived.Test.YtgpdbifgbabnnaaDkG0
import Derived.Test.YtgpdbifgbabnnaaDkW
import Derived.Test.YtgpdbifgbabnnaaDkC
import Derived.Test.YtgpdbifgbabnnaaOpen
namespace Go.Proofs.Ytgpdbifgbabnnaa
open Go.RowKit Go.Maps
set_option linter.unusedVariables false
set_option linter.unusedSimpArgs false

/-- What Wake adds. -/
def moreF (f : Fl) (k : Option Int) : Int := match k with | some v => minI (maxI v 0) (f.b.size - f.s) | none => 0
theorem keepF_more (f : Fl) (k : Option Int) : keepF f k = ⟨f.n, cutB f.b (f.s + moreF f k), f.s + moreF f k⟩ := by unfold keepF moreF; rfl
theorem Slc.ats {α : Type} {enc : α → List Value} {m : Nat} {w : World} {v : Value} {L : List α} (h : Slc enc m w v L) (i : Nat) (hi : i < L.length) : ∃ g off cap, v = .slice (some ⟨g, off, none⟩) L.length cap ∧ ∀ j u, (enc L[i])[j]? = some u → w.cell? ⟨g, off + i * m + j, none⟩ = some u := by
  rcases h with ⟨a, cap, rfl, _, rfl⟩ | ⟨g, off, cap, rfl, h1, h2, hc⟩
  · simp at hi
  · exact ⟨g, off, cap, rfl, fun j u hu => Slc.get (.inr ⟨g, off, cap, rfl, h1, h2, hc⟩) i hi j u hu⟩

set_option maxRecDepth 100000 in
set_option maxHeartbeats 12800000 in
theorem wake_any (hLi : ListOk) (w : World) (d b : Nat) (s : DS) (kv : Value) (K : List Int) (h : Disk w d b s) (ho : DOk s) (hL : s.L.length < 1000000) (hK : Slc (intEnc .i64) 1 w kv K) (hKb : K.length ≠ 0 → ∀ i, kv.ownBlock = some i → ¬ DiskS d b i) :
    Calls Try.prog 20 #[.pointer (some ⟨d, 0, none⟩), kv] w fun e w' => e = .returned (.tuple #[]) ∧ Disk w' d b (waD s K) ∧ Upd (DiskS d b) w w' := by
  have c0 := h.c0
  have c3 := h.c3
  have hf3 := h.1.frozen 3
  have hlt := h.lt
  obtain ⟨hl1, hl2⟩ := hlt
  obtain ⟨ka, kc, rfl, hmk⟩ := hK.len
  cases hoff : s.off
  · have e1 : waD s K = s := by unfold waD; rw [if_neg (by rw [hoff]; simp)]
    rw [e1]
    rw [hoff] at c3
    go_enter Try.func20, Try.ntmps20
    go_wp2_with (go_at_call 40; (with_reducible refine (there_ok _ d b c0).mono ?_); rintro e w1 ⟨rfl, rfl⟩)
    refine bodyPost_ret (results_none rfl _ _ _) rfl ?_
    exact ⟨rfl, h, Upd.refl _ _⟩
  · have e1 : waD s K = { s with off := false, L := keepL s.L K } := by unfold waD; rw [if_pos hoff]
    rw [e1]
    rw [hoff] at c3
    obtain ⟨W, hW⟩ : ∃ W, W = w.setCell ⟨d, 3, none⟩ (.bool false) := ⟨_, rfl⟩
    have D0 : Disk W d b { s with off := false } := by rw [hW]; exact ⟨h.1.set 3 _, h.2.1.other _ _ h.2.2, h.2.2⟩
    have U0 : Upd (DiskS d b) w W := by rw [hW]; exact Upd.set (S := DiskS d b) (p := ⟨d, 3, none⟩) (.inl rfl) _
    have hlist := hLi W d b { s with off := false } D0 ⟨ho.rise, ho.file, ho.room, ho.left⟩ hL
    have hW' := Lib.hid hW; clear hW
    have hwl := U0.size
    go_enter Try.func20, Try.ntmps20
    go_wp2_with (first
      | (go_at_call 40; (with_reducible refine (there_ok _ d b c0).mono ?_); rintro e w1 ⟨rfl, rfl⟩)
      | (go_at_call 14; rw [← hW'.out]; (with_reducible refine hlist.mono ?_); clear hlist; rintro e w1 ⟨v, rfl, hO, hB1⟩; obtain ⟨va, vc, rfl, hmv⟩ := (hO.slc strEnc_len).len))
    have hD1 := D0.pure hB1
    have hU1 : Upd (DiskS d b) w w1 := U0.trans (Upd.of_below hB1) (fun i hi _ => hi)
    have hsz1 := hB1.size
    simp only [List.length_map] at *
    have hO' := Lib.hid hO; clear hO
    have hoo := Lib.hid ho; clear ho
    have hKK := Lib.hid hK; clear hK
    have hKb' := Lib.hid hKb; clear hKb
    clear h c0 c3 hf3 D0 hB1 U0 e1 hoff
    go_loopw [4, 5, 6, 7, 24] (fun _ _ _ _ s24 wr => ∃ k : Nat, k ≤ s.L.length ∧ s24 = .int .i64 k ∧ Disk wr d b { s with off := false, L := wk s.L K k } ∧ Upd (DiskS d b) w1 wr)
      (fun _ _ _ _ s24 _ => s.L.length - (intOf s24).toNat)
    case atStart => exact ⟨0, by omega, rfl, by rw [wk_zero]; exact hD1, Upd.refl _ _⟩
    case round =>
      obtain ⟨k, hk, rfl, hD, hU⟩ := hrel
      have hUl := hU.size
      by_cases hlt : k < s.L.length
      · have hnm : (s.L.map Fl.n)[k]'(by simpa using hlt) = s.L[k].n := by simp
        have hslc := ((hO'.out.slc strEnc_len).upd hU (fun i hi q => by have := hO'.out.ge hi; rcases q with q | q <;> omega)).ats k (by simpa using hlt)
        obtain ⟨g, off, cap, ev, hc⟩ := hslc
        have hc0 := hc 0 (.string s.L[k].n) (by rw [hnm]; rfl)
        simp only [Value.slice.injEq, Nat.mul_one, Nat.add_zero, List.length_map, and_true, true_and] at ev hc0
        obtain ⟨rfl, rfl⟩ := ev
        clear hc hnm
        obtain ⟨f, hf⟩ : ∃ f, s.L[k] = f := ⟨_, rfl⟩
        rw [hf] at hc0
        have hfo := hoo.out.file f (by rw [← hf]; exact List.getElem_mem hlt)
        have hxo := mayN_ok hfo.1
        have hfl : flH (wk s.L K k) f.n = some (f.b, f.s) := by unfold flH; rw [← hf, wk_get hoo.out.rise hlt]; rfl
        have d0 := hD.c0
        have hm := hD.2.1
        have hmo : ∃ M, M = moreF f K[k]? ∧ 0 ≤ M ∧ M ≤ f.b.size - f.s := ⟨_, rfl, by
          unfold moreF
          cases K[k]? with
          | none => simp
          | some v => have h1 := maxI_ge v 0; have h2 := minI_le (maxI v 0) (f.b.size - f.s); show 0 ≤ minI (maxI v 0) (f.b.size - f.s); have := hfo.2.2.1; omega, by
          unfold moreF
          cases K[k]? with
          | none => simp; have := hfo.2.2.1; omega
          | some v => have h2 := minI_le (maxI v 0) (f.b.size - f.s); exact h2.2.1⟩
        obtain ⟨M, hM, hM0, hM1⟩ := hmo
        have hkf := keepF_more f K[k]?
        rw [← hM] at hkf
        obtain ⟨fn0, fs0, fs1, fz⟩ := hfo
        by_cases hik : k < K.length
        · skip
          have hkc := (hKK.out.upd (hU1.trans hU (fun i hi _ => hi)) (hKb'.out (by omega))).ats k hik
          obtain ⟨kg, koff, kcap, ekv, hkc⟩ := hkc
          have hkc0 := hkc 0 (.int .i64 K[k]) rfl
          simp only [Value.slice.injEq, Nat.mul_one, Nat.add_zero, and_true, true_and] at ekv hkc0
          obtain ⟨rfl, rfl⟩ := ekv
          clear hkc
          rw [List.getElem?_eq_getElem hik] at hM
          obtain ⟨kvv, hkv⟩ : ∃ kvv, K[k] = kvv := ⟨_, rfl⟩
          rw [hkv] at hM hkc0
          have hmx : (if kvv < 0 then (0 : Int) else kvv) = maxI kvv 0 := by unfold maxI; split <;> split <;> omega
          have hmn : (if (f.b.size : Int) - f.s < maxI kvv 0 then (f.b.size : Int) - f.s else maxI kvv 0) = M := by rw [hM]; show _ = minI (maxI kvv 0) (f.b.size - f.s); unfold minI; split <;> split <;> omega
          obtain ⟨mx, hmx1⟩ : ∃ mx, maxI kvv 0 = mx := ⟨_, rfl⟩
          rw [hmx1] at hmx hmn
          have hM' := Lib.hid hM; clear hM hmx1 hkv
          have hmx' := Lib.hid hmx; have hmn' := Lib.hid hmn; clear hmx hmn
          go_wp2_with (at_lookup; refine wpList_lookG _ filesT rfl _ _ rfl rfl hm f.n rfl hxo ?_; rw [hfl]; simp only [Option.getD_some, evF])
          obtain ⟨V, hV⟩ : ∃ V, V = wr.alloc (.cells #[.string f.b, .int .i64 f.s] 72) := ⟨_, rfl⟩
          have kf : Blk V wr.heap.size [.string f.b, .int .i64 f.s] := by rw [hV]; exact Blk.new wr [.string f.b, .int .i64 f.s] 72
          have BV : Below wr.heap.size wr V := by rw [hV]; exact (Below.refl _ wr).alloc (Nat.le_refl _) _
          rw [← hV]
          clear hV
          have DV := hD.pure BV
          have hVl := BV.size
          have hdl := hD.lt
          have hmV := DV.2.1
          have hkcV := (BV.cell (World.block_lt_of_cell? wr _ hkc0)).trans hkc0
          have hwr0 : IntKind.i64.wrap ((f.b.size : Int) - f.s) = (f.b.size : Int) - f.s := IntWalk.i64_in _ (by omega)
          have hz1 : 0 ≤ f.s + M := by omega
          have hz2 : f.s + M ≤ (f.b.size : Int) := by omega
          have hwr1 : IntKind.i64.wrap (f.s + M) = f.s + M := IntWalk.i64_in _ (by omega)
          have hb := ((Below.refl _ V).drew : Below V.heap.size V V.drew)
          refine wp_region_held_drew (S := fun v => Below V.heap.size V v) (by kernel_rfl) hb (fun hHeld => ?_)
          refine takeH 0 41 (v := ?_) rfl rfl (by kernel_rfl) (by kernel_rfl) (by kernel_rfl) (fun _ _ _ h => h) (Or.inl ⟨by kernel_rfl, ?_⟩) hHeld ?_
          rotate_left 1
          · (intro v hSw; (try dsimp only at hSw); clear hSw; go_simp; (try with_reducible rfl))
          try simp only [Act.put, List.setIfInBounds_toArray, List.set_cons_zero, List.set_cons_succ]
          refine takeH 1 42 (v := ?_) rfl rfl (by kernel_rfl) (by kernel_rfl) (by kernel_rfl) (fun _ _ _ h => h) (Or.inl ⟨by kernel_rfl, ?_⟩) hHeld ?_
          rotate_left 1
          · (intro v hSw; (try dsimp only at hSw); clear hSw; go_simp; (try with_reducible rfl))
          try simp only [Act.put, List.setIfInBounds_toArray, List.set_cons_zero, List.set_cons_succ]
          refine takeH 2 43 (v := ?_) rfl rfl (by kernel_rfl) (by kernel_rfl) (by kernel_rfl) (fun _ _ _ h => h) (Or.inl ⟨by kernel_rfl, ?_⟩) hHeld ?_
          rotate_left 1
          · (intro v hSw; (try dsimp only at hSw); clear hSw; go_simp; (try with_reducible rfl))
          try simp only [Act.put, List.setIfInBounds_toArray, List.set_cons_zero, List.set_cons_succ]
          refine takeH 3 44 (v := ?_) rfl rfl (by kernel_rfl) (by kernel_rfl) (by kernel_rfl) (fun _ _ _ h => h) (Or.inl ⟨by kernel_rfl, ?_⟩) hHeld ?_
          rotate_left 1
          · (intro v hSw; (try dsimp only at hSw); clear hSw; go_simp; (try with_reducible rfl))
          try simp only [Act.put, List.setIfInBounds_toArray, List.set_cons_zero, List.set_cons_succ]
          refine takeH 4 45 (v := ?_) rfl rfl (by kernel_rfl) (by kernel_rfl) (by kernel_rfl) (fun _ _ _ h => h) (Or.inl ⟨by kernel_rfl, ?_⟩) hHeld ?_
          rotate_left 1
          · (intro v hSw; (try dsimp only at hSw); have q0 := (hSw.cell (World.block_lt_of_cell? V _ hkcV)).trans hkcV; clear hSw; go_simp; (try with_reducible rfl))
          try simp only [Act.put, List.setIfInBounds_toArray, List.set_cons_zero, List.set_cons_succ]
          refine takeH 5 46 (v := ?_) rfl rfl (by kernel_rfl) (by kernel_rfl) (by kernel_rfl) (fun _ _ _ h => h) (Or.inl ⟨by kernel_rfl, ?_⟩) hHeld ?_
          rotate_left 1
          · (intro v hSw; (try dsimp only at hSw); have q1 := hmx'.out; clear hSw; go_simp; (try with_reducible rfl))
          try simp only [Act.put, List.setIfInBounds_toArray, List.set_cons_zero, List.set_cons_succ]
          refine takeH 6 47 (v := ?_) rfl rfl (by kernel_rfl) (by kernel_rfl) (by kernel_rfl) (fun _ _ _ h => h) (Or.inl ⟨by kernel_rfl, ?_⟩) hHeld ?_
          rotate_left 1
          · (intro v hSw; (try dsimp only at hSw); clear hSw; go_simp; (try with_reducible rfl))
          try simp only [Act.put, List.setIfInBounds_toArray, List.set_cons_zero, List.set_cons_succ]
          refine takeH 7 48 (v := ?_) rfl rfl (by kernel_rfl) (by kernel_rfl) (by kernel_rfl) (fun _ _ _ h => h) (Or.inl ⟨by kernel_rfl, ?_⟩) hHeld ?_
          rotate_left 1
          · (intro v hSw; (try dsimp only at hSw); have q0 := (kf.pure hSw).at 0 rfl; clear hSw; go_simp; (try with_reducible rfl))
          try simp only [Act.put, List.setIfInBounds_toArray, List.set_cons_zero, List.set_cons_succ]
          refine takeH 8 49 (v := ?_) rfl rfl (by kernel_rfl) (by kernel_rfl) (by kernel_rfl) (fun _ _ _ h => h) (Or.inl ⟨by kernel_rfl, ?_⟩) hHeld ?_
          rotate_left 1
          · (intro v hSw; (try dsimp only at hSw); clear hSw; go_simp; (try with_reducible rfl))
          try simp only [Act.put, List.setIfInBounds_toArray, List.set_cons_zero, List.set_cons_succ]
          refine takeH 9 50 (v := ?_) rfl rfl (by kernel_rfl) (by kernel_rfl) (by kernel_rfl) (fun _ _ _ h => h) (Or.inl ⟨by kernel_rfl, ?_⟩) hHeld ?_
          rotate_left 1
          · (intro v hSw; (try dsimp only at hSw); clear hSw; go_simp; (try with_reducible rfl))
          try simp only [Act.put, List.setIfInBounds_toArray, List.set_cons_zero, List.set_cons_succ]
          refine takeH 10 51 (v := ?_) rfl rfl (by kernel_rfl) (by kernel_rfl) (by kernel_rfl) (fun _ _ _ h => h) (Or.inl ⟨by kernel_rfl, ?_⟩) hHeld ?_
          rotate_left 1
          · (intro v hSw; (try dsimp only at hSw); have q0 := (kf.pure hSw).at 1 rfl; clear hSw; go_simp; (try with_reducible rfl))
          try simp only [Act.put, List.setIfInBounds_toArray, List.set_cons_zero, List.set_cons_succ]
          refine takeH 11 52 (v := ?_) rfl rfl (by kernel_rfl) (by kernel_rfl) (by kernel_rfl) (fun _ _ _ h => h) (Or.inl ⟨by kernel_rfl, ?_⟩) hHeld ?_
          rotate_left 1
          · (intro v hSw; (try dsimp only at hSw); have q1 := hwr0; clear hSw; go_simp; (try with_reducible rfl))
          try simp only [Act.put, List.setIfInBounds_toArray, List.set_cons_zero, List.set_cons_succ]
          refine takeH 12 53 (v := ?_) rfl rfl (by kernel_rfl) (by kernel_rfl) (by kernel_rfl) (fun _ _ _ h => h) (Or.inl ⟨by kernel_rfl, ?_⟩) hHeld ?_
          rotate_left 1
          · (intro v hSw; (try dsimp only at hSw); have q1 := hmn'.out; clear hSw; go_simp; (try with_reducible rfl))
          try simp only [Act.put, List.setIfInBounds_toArray, List.set_cons_zero, List.set_cons_succ]
          refine takeH 13 54 (v := ?_) rfl rfl (by kernel_rfl) (by kernel_rfl) (by kernel_rfl) (fun _ _ _ h => h) (Or.inl ⟨by kernel_rfl, ?_⟩) hHeld ?_
          rotate_left 1
          · (intro v hSw; (try dsimp only at hSw); have q1 := hwr1; clear hSw; go_simp; (try with_reducible rfl))
          try simp only [Act.put, List.setIfInBounds_toArray, List.set_cons_zero, List.set_cons_succ]
          refine takeH 14 7 (v := ?_) rfl rfl (by kernel_rfl) (by kernel_rfl) (by kernel_rfl) (fun _ _ _ h => h) (Or.inl ⟨by kernel_rfl, ?_⟩) hHeld ?_
          rotate_left 1
          · (intro v hSw; (try dsimp only at hSw); clear hSw; go_simp; (try with_reducible rfl))
          try simp only [Act.put, List.setIfInBounds_toArray, List.set_cons_zero, List.set_cons_succ]
          refine wpAnyH_done (by kernel_rfl) ?_ _
          obtain ⟨X, hX⟩ : ∃ X, X = V.drew := ⟨_, rfl⟩
          have DX : Disk X d b { s with off := false, L := wk s.L K k } := by rw [hX]; exact DV.pure ((Below.refl _ V).drew)
          have kfX : Blk X wr.heap.size [.string f.b, .int .i64 f.s] := by rw [hX]; exact kf.drew
          have BX : Below wr.heap.size wr X := by rw [hX]; exact BV.drew
          rw [← hX]
          clear hHeld hb hX
          go_wp2
          have hb := upd_drew (S := fun k => k = b) X
          refine wp_region_held_drew (S := fun v => Upd (fun k => k = b) X v) (by kernel_rfl) hb (fun hHeld => ?_)
          refine takeH 0 55 (v := ?_) rfl rfl (by kernel_rfl) (by kernel_rfl) (by kernel_rfl) (fun _ _ _ h => h) (Or.inl ⟨by kernel_rfl, ?_⟩) hHeld ?_
          rotate_left 1
          · (intro v hSw; (try dsimp only at hSw); clear hSw; go_simp; (try with_reducible rfl))
          try simp only [Act.put, List.setIfInBounds_toArray, List.set_cons_zero, List.set_cons_succ]
          refine takeH 1 56 (v := ?_) rfl rfl (by kernel_rfl) (by kernel_rfl) (by kernel_rfl) (fun _ _ _ h => h) (Or.inl ⟨by kernel_rfl, ?_⟩) hHeld ?_
          rotate_left 1
          · (intro v hSw; (try dsimp only at hSw); clear hSw; go_simp; (try with_reducible rfl))
          try simp only [Act.put, List.setIfInBounds_toArray, List.set_cons_zero, List.set_cons_succ]
          refine takeH 2 57 (v := ?_) rfl rfl (by kernel_rfl) (by kernel_rfl) (by kernel_rfl) (fun _ _ _ h => h) (Or.inl ⟨by kernel_rfl, ?_⟩) hHeld ?_
          rotate_left 1
          · (intro v hSw; (try dsimp only at hSw); clear hSw; go_simp; (try with_reducible rfl))
          try simp only [Act.put, List.setIfInBounds_toArray, List.set_cons_zero, List.set_cons_succ]
          refine takeH 3 58 (v := ?_) rfl rfl (by kernel_rfl) (by kernel_rfl) (by kernel_rfl) (fun _ _ _ h => h) (Or.inl ⟨by kernel_rfl, ?_⟩) hHeld ?_
          rotate_left 1
          · (intro v hSw; (try dsimp only at hSw); have q0 := (DX.1.upd hSw DX.2.2.symm).at 0 rfl; clear hSw; go_simp; (try with_reducible rfl))
          try simp only [Act.put, List.setIfInBounds_toArray, List.set_cons_zero, List.set_cons_succ]
          refine takeH 4 59 (v := ?_) rfl rfl (by kernel_rfl) (by kernel_rfl) (by kernel_rfl) (fun _ _ _ h => h) (Or.inl ⟨by kernel_rfl, ?_⟩) hHeld ?_
          rotate_left 1
          · (intro v hSw; (try dsimp only at hSw); clear hSw; go_simp; (try with_reducible rfl))
          try simp only [Act.put, List.setIfInBounds_toArray, List.set_cons_zero, List.set_cons_succ]
          refine takeH 5 60 (v := ?_) rfl rfl (by kernel_rfl) (by kernel_rfl) (by kernel_rfl) (fun _ _ _ h => h) (Or.inl ⟨by kernel_rfl, ?_⟩) hHeld ?_
          rotate_left 1
          · (intro v hSw; (try dsimp only at hSw); clear hSw; go_simp; (try with_reducible rfl))
          try simp only [Act.put, List.setIfInBounds_toArray, List.set_cons_zero, List.set_cons_succ]
          refine takeH 6 61 (v := ?_) rfl rfl (by kernel_rfl) (by kernel_rfl) (by kernel_rfl) (fun _ _ _ h => h) (Or.inl ⟨by kernel_rfl, ?_⟩) hHeld ?_
          rotate_left 1
          · (intro v hSw; (try dsimp only at hSw); have q0 := (kfX.upd hSw (by omega)).at 0 rfl; clear hSw; go_simp; (try with_reducible rfl))
          try simp only [Act.put, List.setIfInBounds_toArray, List.set_cons_zero, List.set_cons_succ]
          refine takeH 7 62 (v := ?_) rfl rfl (by kernel_rfl) (by kernel_rfl) (by kernel_rfl) (fun _ _ _ h => h) (Or.inl ⟨by kernel_rfl, ?_⟩) hHeld ?_
          rotate_left 1
          · (intro v hSw; (try dsimp only at hSw); clear hSw; go_simp; (try with_reducible rfl))
          try simp only [Act.put, List.setIfInBounds_toArray, List.set_cons_zero, List.set_cons_succ]
          refine takeH 8 63 (v := ?_) rfl rfl (by kernel_rfl) (by kernel_rfl) (by kernel_rfl) (fun _ _ _ h => h) (Or.inl ⟨by kernel_rfl, ?_⟩) hHeld ?_
          rotate_left 1
          · (intro v hSw; (try dsimp only at hSw); clear hSw; go_simp; (try with_reducible rfl))
          try simp only [Act.put, List.setIfInBounds_toArray, List.set_cons_zero, List.set_cons_succ]
          refine takeH 9 64 (v := ?_) rfl rfl (by kernel_rfl) (by kernel_rfl) (by kernel_rfl) (fun _ _ _ h => h) (Or.inl ⟨by kernel_rfl, ?_⟩) hHeld ?_
          rotate_left 1
          · (intro v hSw; (try dsimp only at hSw); clear hSw; go_simp; (try with_reducible rfl))
          try simp only [Act.put, List.setIfInBounds_toArray, List.set_cons_zero, List.set_cons_succ]
          refine takeH 10 65 (v := ?_) rfl rfl (by kernel_rfl) (by kernel_rfl) (by kernel_rfl) (fun _ _ _ h => h) (Or.inl ⟨by kernel_rfl, ?_⟩) hHeld ?_
          rotate_left 1
          · (intro v hSw; (try dsimp only at hSw); clear hSw; go_simp; (try with_reducible rfl))
          try simp only [Act.put, List.setIfInBounds_toArray, List.set_cons_zero, List.set_cons_succ]
          refine wpAnyH_ready (rs := [11]) (by kernel_rfl) (by simp) ?_
          refine AllReadyH.cons rfl (fun Kq hKq => ?_) AllReadyH.nil
          obtain ⟨w2, hrun, hm2, hg2⟩ := (DX.2.1.drew).put_run filesT (by show (wk s.L K k).length < maxLen; rw [wk_len]; unfold maxLen; omega) (u := f.n) hxo (cutB f.b (f.s + M), f.s + M)
          unfold evF cutB at hrun
          have hb := upd_dr_grown hg2
          go_simp
          refine hKq.out _ _ hb (fun hHeld => ?_)
          clear hKq Kq
          try simp only [Act.put, List.setIfInBounds_toArray, List.set_cons_zero, List.set_cons_succ]
          refine wpAnyH_done (by kernel_rfl) ?_ _
          clear hHeld hrun
          have hfin : Disk w2 d b { s with off := false, L := wk s.L K (k + 1) } := by
            have hs := wk_set (K := K) hoo.out.rise hlt
            rw [hf, hkf] at hs
            have hm3 := files_set (f := ⟨f.n, cutB f.b (f.s + M), f.s + M⟩) (wk_rises hoo.out.rise) rfl hm2
            rw [hs] at hm3
            exact ⟨DX.1.upd hb DX.2.2.symm, hm3, DX.2.2⟩
          have hfin' := Lib.hid hfin; clear hfin
          have hUX : Upd (DiskS d b) w1 w2 := (hU.trans (Upd.of_below BX) (fun i hi _ => hi)).trans hb (fun i hi _ => .inr hi)
          have hUX' := Lib.hid hUX; clear hUX
          clear hm2 hg2 hb
          go_wp2
          go_roundw
          case rel => exact ⟨k + 1, by omega, by go_num, hfin'.out, hUX'.out⟩
          case measure => simp [intOf]; omega
        · skip
          have hM2 : M = 0 := by rw [hM, List.getElem?_eq_none (by omega)]; rfl
          clear hM
          have eM : f.s + M = f.s := by omega
          rw [eM] at hkf
          clear eM
          go_wp2_with (at_lookup; refine wpList_lookG _ filesT rfl _ _ rfl rfl hm f.n rfl hxo ?_; rw [hfl]; simp only [Option.getD_some, evF])
          obtain ⟨V, hV⟩ : ∃ V, V = wr.alloc (.cells #[.string f.b, .int .i64 f.s] 72) := ⟨_, rfl⟩
          have kf : Blk V wr.heap.size [.string f.b, .int .i64 f.s] := by rw [hV]; exact Blk.new wr [.string f.b, .int .i64 f.s] 72
          have BV : Below wr.heap.size wr V := by rw [hV]; exact (Below.refl _ wr).alloc (Nat.le_refl _) _
          rw [← hV]
          clear hV
          have DV := hD.pure BV
          have hVl := BV.size
          have hdl := hD.lt
          have hmV := DV.2.1
          have DX := DV; have kfX := kf; have BX := BV
          obtain ⟨X, hX⟩ : ∃ X, X = V := ⟨_, rfl⟩
          rw [← hX] at DX kfX BX ⊢
          clear hX
          go_wp2
          have hb := upd_drew (S := fun k => k = b) X
          refine wp_region_held_drew (S := fun v => Upd (fun k => k = b) X v) (by kernel_rfl) hb (fun hHeld => ?_)
          refine takeH 0 55 (v := ?_) rfl rfl (by kernel_rfl) (by kernel_rfl) (by kernel_rfl) (fun _ _ _ h => h) (Or.inl ⟨by kernel_rfl, ?_⟩) hHeld ?_
          rotate_left 1
          · (intro v hSw; (try dsimp only at hSw); clear hSw; go_simp; (try with_reducible rfl))
          try simp only [Act.put, List.setIfInBounds_toArray, List.set_cons_zero, List.set_cons_succ]
          refine takeH 1 56 (v := ?_) rfl rfl (by kernel_rfl) (by kernel_rfl) (by kernel_rfl) (fun _ _ _ h => h) (Or.inl ⟨by kernel_rfl, ?_⟩) hHeld ?_
          rotate_left 1
          · (intro v hSw; (try dsimp only at hSw); clear hSw; go_simp; (try with_reducible rfl))
          try simp only [Act.put, List.setIfInBounds_toArray, List.set_cons_zero, List.set_cons_succ]
          refine takeH 2 57 (v := ?_) rfl rfl (by kernel_rfl) (by kernel_rfl) (by kernel_rfl) (fun _ _ _ h => h) (Or.inl ⟨by kernel_rfl, ?_⟩) hHeld ?_
          rotate_left 1
          · (intro v hSw; (try dsimp only at hSw); clear hSw; go_simp; (try with_reducible rfl))
          try simp only [Act.put, List.setIfInBounds_toArray, List.set_cons_zero, List.set_cons_succ]
          refine takeH 3 58 (v := ?_) rfl rfl (by kernel_rfl) (by kernel_rfl) (by kernel_rfl) (fun _ _ _ h => h) (Or.inl ⟨by kernel_rfl, ?_⟩) hHeld ?_
          rotate_left 1
          · (intro v hSw; (try dsimp only at hSw); have q0 := (DX.1.upd hSw DX.2.2.symm).at 0 rfl; clear hSw; go_simp; (try with_reducible rfl))
          try simp only [Act.put, List.setIfInBounds_toArray, List.set_cons_zero, List.set_cons_succ]
          refine takeH 4 59 (v := ?_) rfl rfl (by kernel_rfl) (by kernel_rfl) (by kernel_rfl) (fun _ _ _ h => h) (Or.inl ⟨by kernel_rfl, ?_⟩) hHeld ?_
          rotate_left 1
          · (intro v hSw; (try dsimp only at hSw); clear hSw; go_simp; (try with_reducible rfl))
          try simp only [Act.put, List.setIfInBounds_toArray, List.set_cons_zero, List.set_cons_succ]
          refine takeH 5 60 (v := ?_) rfl rfl (by kernel_rfl) (by kernel_rfl) (by kernel_rfl) (fun _ _ _ h => h) (Or.inl ⟨by kernel_rfl, ?_⟩) hHeld ?_
          rotate_left 1
          · (intro v hSw; (try dsimp only at hSw); clear hSw; go_simp; (try with_reducible rfl))
          try simp only [Act.put, List.setIfInBounds_toArray, List.set_cons_zero, List.set_cons_succ]
          refine takeH 6 61 (v := ?_) rfl rfl (by kernel_rfl) (by kernel_rfl) (by kernel_rfl) (fun _ _ _ h => h) (Or.inl ⟨by kernel_rfl, ?_⟩) hHeld ?_
          rotate_left 1
          · (intro v hSw; (try dsimp only at hSw); have q0 := (kfX.upd hSw (by omega)).at 0 rfl; clear hSw; go_simp; (try with_reducible rfl))
          try simp only [Act.put, List.setIfInBounds_toArray, List.set_cons_zero, List.set_cons_succ]
          refine takeH 7 62 (v := ?_) rfl rfl (by kernel_rfl) (by kernel_rfl) (by kernel_rfl) (fun _ _ _ h => h) (Or.inl ⟨by kernel_rfl, ?_⟩) hHeld ?_
          rotate_left 1
          · (intro v hSw; (try dsimp only at hSw); clear hSw; go_simp; (try with_reducible rfl))
          try simp only [Act.put, List.setIfInBounds_toArray, List.set_cons_zero, List.set_cons_succ]
          refine takeH 8 63 (v := ?_) rfl rfl (by kernel_rfl) (by kernel_rfl) (by kernel_rfl) (fun _ _ _ h => h) (Or.inl ⟨by kernel_rfl, ?_⟩) hHeld ?_
          rotate_left 1
          · (intro v hSw; (try dsimp only at hSw); clear hSw; go_simp; (try with_reducible rfl))
          try simp only [Act.put, List.setIfInBounds_toArray, List.set_cons_zero, List.set_cons_succ]
          refine takeH 9 64 (v := ?_) rfl rfl (by kernel_rfl) (by kernel_rfl) (by kernel_rfl) (fun _ _ _ h => h) (Or.inl ⟨by kernel_rfl, ?_⟩) hHeld ?_
          rotate_left 1
          · (intro v hSw; (try dsimp only at hSw); clear hSw; go_simp; (try with_reducible rfl))
          try simp only [Act.put, List.setIfInBounds_toArray, List.set_cons_zero, List.set_cons_succ]
          refine takeH 10 65 (v := ?_) rfl rfl (by kernel_rfl) (by kernel_rfl) (by kernel_rfl) (fun _ _ _ h => h) (Or.inl ⟨by kernel_rfl, ?_⟩) hHeld ?_
          rotate_left 1
          · (intro v hSw; (try dsimp only at hSw); clear hSw; go_simp; (try with_reducible rfl))
          try simp only [Act.put, List.setIfInBounds_toArray, List.set_cons_zero, List.set_cons_succ]
          refine wpAnyH_ready (rs := [11]) (by kernel_rfl) (by simp) ?_
          refine AllReadyH.cons rfl (fun Kq hKq => ?_) AllReadyH.nil
          obtain ⟨w2, hrun, hm2, hg2⟩ := (DX.2.1.drew).put_run filesT (by show (wk s.L K k).length < maxLen; rw [wk_len]; unfold maxLen; omega) (u := f.n) hxo (cutB f.b (f.s), f.s)
          unfold evF cutB at hrun
          have hb := upd_dr_grown hg2
          go_simp
          refine hKq.out _ _ hb (fun hHeld => ?_)
          clear hKq Kq
          try simp only [Act.put, List.setIfInBounds_toArray, List.set_cons_zero, List.set_cons_succ]
          refine wpAnyH_done (by kernel_rfl) ?_ _
          clear hHeld hrun
          have hfin : Disk w2 d b { s with off := false, L := wk s.L K (k + 1) } := by
            have hs := wk_set (K := K) hoo.out.rise hlt
            rw [hf, hkf] at hs
            have hm3 := files_set (f := ⟨f.n, cutB f.b (f.s), f.s⟩) (wk_rises hoo.out.rise) rfl hm2
            rw [hs] at hm3
            exact ⟨DX.1.upd hb DX.2.2.symm, hm3, DX.2.2⟩
          have hfin' := Lib.hid hfin; clear hfin
          have hUX : Upd (DiskS d b) w1 w2 := (hU.trans (Upd.of_below BX) (fun i hi _ => hi)).trans hb (fun i hi _ => .inr hi)
          have hUX' := Lib.hid hUX; clear hUX
          clear hm2 hg2 hb
          go_wp2
          go_roundw
          case rel => exact ⟨k + 1, by omega, by go_num, hfin'.out, hUX'.out⟩
          case measure => simp [intOf]; omega
      · obtain rfl : k = s.L.length := by omega
        go_wp2
        go_end0
        rw [wk_end] at hD
        exact ⟨rfl, hD, hU1.trans hU (fun i hi _ => hi)⟩
end Go.Proofs.Ytgpdbifgbabnnaa
