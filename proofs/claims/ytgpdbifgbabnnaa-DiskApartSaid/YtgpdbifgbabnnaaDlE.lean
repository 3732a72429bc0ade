/- Package disk: Copy; the law DiskKeeps. Conditions: the arguments read as a row of acts and a row of numbers. Written by gen_dlE.py. -/
import Derived.Test.YtgpdbifgbabnnaaDlD
namespace Go.Proofs.Ytgpdbifgbabnnaa
open Go.RowKit
set_option linter.unusedVariables false
set_option linter.unusedSimpArgs false
set_option maxRecDepth 100000 in
set_option maxHeartbeats 3200000 in
theorem copy_any (hCl : CloneOk) (w : World) (d b : Nat) (s : DS) (h : Disk w d b s) :
    Calls Try.prog 18 #[.pointer (some ⟨d, 0, none⟩)] w fun e w' => ∃ d2 b2, e = .returned (.pointer (some ⟨d2, 0, none⟩)) ∧ Disk w' d2 b2 s ∧ w.heap.size ≤ d2 ∧ w.heap.size ≤ b2 ∧ Below w.heap.size w w' := by
  have c0 := h.c0
  have cC := hCl w.drew b s.L h.2.1.drew
  go_enter Try.func18, Try.ntmps18
  go_wp2_with (go_at_call 40; (with_reducible refine (there_ok _ d b c0).mono ?_); rintro e _ ⟨rfl, rfl⟩)
  have hb := ((Below.refl _ w).drew : Below w.heap.size w w.drew)
  refine wp_region_held_drew (S := fun v => Below w.heap.size w v) (by kernel_rfl) hb (fun hHeld => ?_)
  refine takeH 0 6 (v := ?_) rfl rfl (by kernel_rfl) (by kernel_rfl) (by kernel_rfl) (fun _ _ _ h => h) (Or.inl ⟨by kernel_rfl, ?_⟩) hHeld ?_
  rotate_left 1
  · (intro v hSw; (try dsimp only at hSw); clear hSw; go_simp; (try with_reducible rfl))
  try simp only [Act.put, List.setIfInBounds_toArray, List.set_cons_zero, List.set_cons_succ]
  refine takeH 1 7 (v := ?_) rfl rfl (by kernel_rfl) (by kernel_rfl) (by kernel_rfl) (fun _ _ _ h => h) (Or.inl ⟨by kernel_rfl, ?_⟩) hHeld ?_
  rotate_left 1
  · (intro v hSw; (try dsimp only at hSw); clear hSw; go_simp; (try with_reducible rfl))
  try simp only [Act.put, List.setIfInBounds_toArray, List.set_cons_zero, List.set_cons_succ]
  refine takeH 2 8 (v := ?_) rfl rfl (by kernel_rfl) (by kernel_rfl) (by kernel_rfl) (fun _ _ _ h => h) (Or.inl ⟨by kernel_rfl, ?_⟩) hHeld ?_
  rotate_left 1
  · (intro v hSw; (try dsimp only at hSw); clear hSw; go_simp; (try with_reducible rfl))
  try simp only [Act.put, List.setIfInBounds_toArray, List.set_cons_zero, List.set_cons_succ]
  refine takeH 3 9 (v := ?_) rfl rfl (by kernel_rfl) (by kernel_rfl) (by kernel_rfl) (fun _ _ _ h => h) (Or.inl ⟨by kernel_rfl, ?_⟩) hHeld ?_
  rotate_left 1
  · (intro v hSw; (try dsimp only at hSw); have q0 := (h.pure hSw).c0; clear hSw; go_simp; (try with_reducible rfl))
  try simp only [Act.put, List.setIfInBounds_toArray, List.set_cons_zero, List.set_cons_succ]
  refine takeH 5 11 (v := ?_) rfl rfl (by kernel_rfl) (by kernel_rfl) (by kernel_rfl) (fun _ _ _ h => h) (Or.inl ⟨by kernel_rfl, ?_⟩) hHeld ?_
  rotate_left 1
  · (intro v hSw; (try dsimp only at hSw); clear hSw; go_simp; (try with_reducible rfl))
  try simp only [Act.put, List.setIfInBounds_toArray, List.set_cons_zero, List.set_cons_succ]
  refine takeH 6 12 (v := ?_) rfl rfl (by kernel_rfl) (by kernel_rfl) (by kernel_rfl) (fun _ _ _ h => h) (Or.inl ⟨by kernel_rfl, ?_⟩) hHeld ?_
  rotate_left 1
  · (intro v hSw; (try dsimp only at hSw); clear hSw; go_simp; (try with_reducible rfl))
  try simp only [Act.put, List.setIfInBounds_toArray, List.set_cons_zero, List.set_cons_succ]
  refine takeH 7 13 (v := ?_) rfl rfl (by kernel_rfl) (by kernel_rfl) (by kernel_rfl) (fun _ _ _ h => h) (Or.inl ⟨by kernel_rfl, ?_⟩) hHeld ?_
  rotate_left 1
  · (intro v hSw; (try dsimp only at hSw); clear hSw; go_simp; (try with_reducible rfl))
  try simp only [Act.put, List.setIfInBounds_toArray, List.set_cons_zero, List.set_cons_succ]
  refine takeH 8 14 (v := ?_) rfl rfl (by kernel_rfl) (by kernel_rfl) (by kernel_rfl) (fun _ _ _ h => h) (Or.inl ⟨by kernel_rfl, ?_⟩) hHeld ?_
  rotate_left 1
  · (intro v hSw; (try dsimp only at hSw); have q0 := (h.pure hSw).c1; clear hSw; go_simp; (try with_reducible rfl))
  try simp only [Act.put, List.setIfInBounds_toArray, List.set_cons_zero, List.set_cons_succ]
  refine takeH 9 15 (v := ?_) rfl rfl (by kernel_rfl) (by kernel_rfl) (by kernel_rfl) (fun _ _ _ h => h) (Or.inl ⟨by kernel_rfl, ?_⟩) hHeld ?_
  rotate_left 1
  · (intro v hSw; (try dsimp only at hSw); clear hSw; go_simp; (try with_reducible rfl))
  try simp only [Act.put, List.setIfInBounds_toArray, List.set_cons_zero, List.set_cons_succ]
  refine takeH 10 16 (v := ?_) rfl rfl (by kernel_rfl) (by kernel_rfl) (by kernel_rfl) (fun _ _ _ h => h) (Or.inl ⟨by kernel_rfl, ?_⟩) hHeld ?_
  rotate_left 1
  · (intro v hSw; (try dsimp only at hSw); clear hSw; go_simp; (try with_reducible rfl))
  try simp only [Act.put, List.setIfInBounds_toArray, List.set_cons_zero, List.set_cons_succ]
  refine takeH 11 17 (v := ?_) rfl rfl (by kernel_rfl) (by kernel_rfl) (by kernel_rfl) (fun _ _ _ h => h) (Or.inl ⟨by kernel_rfl, ?_⟩) hHeld ?_
  rotate_left 1
  · (intro v hSw; (try dsimp only at hSw); clear hSw; go_simp; (try with_reducible rfl))
  try simp only [Act.put, List.setIfInBounds_toArray, List.set_cons_zero, List.set_cons_succ]
  refine takeH 12 18 (v := ?_) rfl rfl (by kernel_rfl) (by kernel_rfl) (by kernel_rfl) (fun _ _ _ h => h) (Or.inl ⟨by kernel_rfl, ?_⟩) hHeld ?_
  rotate_left 1
  · (intro v hSw; (try dsimp only at hSw); have q0 := (h.pure hSw).c2; clear hSw; go_simp; (try with_reducible rfl))
  try simp only [Act.put, List.setIfInBounds_toArray, List.set_cons_zero, List.set_cons_succ]
  refine takeH 13 19 (v := ?_) rfl rfl (by kernel_rfl) (by kernel_rfl) (by kernel_rfl) (fun _ _ _ h => h) (Or.inl ⟨by kernel_rfl, ?_⟩) hHeld ?_
  rotate_left 1
  · (intro v hSw; (try dsimp only at hSw); clear hSw; go_simp; (try with_reducible rfl))
  try simp only [Act.put, List.setIfInBounds_toArray, List.set_cons_zero, List.set_cons_succ]
  refine takeH 14 20 (v := ?_) rfl rfl (by kernel_rfl) (by kernel_rfl) (by kernel_rfl) (fun _ _ _ h => h) (Or.inl ⟨by kernel_rfl, ?_⟩) hHeld ?_
  rotate_left 1
  · (intro v hSw; (try dsimp only at hSw); clear hSw; go_simp; (try with_reducible rfl))
  try simp only [Act.put, List.setIfInBounds_toArray, List.set_cons_zero, List.set_cons_succ]
  refine takeH 15 21 (v := ?_) rfl rfl (by kernel_rfl) (by kernel_rfl) (by kernel_rfl) (fun _ _ _ h => h) (Or.inl ⟨by kernel_rfl, ?_⟩) hHeld ?_
  rotate_left 1
  · (intro v hSw; (try dsimp only at hSw); clear hSw; go_simp; (try with_reducible rfl))
  try simp only [Act.put, List.setIfInBounds_toArray, List.set_cons_zero, List.set_cons_succ]
  refine takeH 16 22 (v := ?_) rfl rfl (by kernel_rfl) (by kernel_rfl) (by kernel_rfl) (fun _ _ _ h => h) (Or.inl ⟨by kernel_rfl, ?_⟩) hHeld ?_
  rotate_left 1
  · (intro v hSw; (try dsimp only at hSw); have q0 := (h.pure hSw).c3; clear hSw; go_simp; (try with_reducible rfl))
  try simp only [Act.put, List.setIfInBounds_toArray, List.set_cons_zero, List.set_cons_succ]
  refine wpAnyH_ready (rs := [4]) (by kernel_rfl) (by simp) ?_
  refine AllReadyH.cons rfl (fun Kq hKq => ?_) AllReadyH.nil
  go_simp
  (go_at_call 44; (with_reducible refine cC.mono ?_); clear cC; rintro e w1 ⟨rfl, M1, B1⟩)
  have hb : Below w.heap.size w w1 := ((Below.refl _ w).drew).trans B1
  refine hKq.out _ _ hb (fun hHeld => ?_)
  clear hKq Kq
  try simp only [Act.put, List.setIfInBounds_toArray, List.set_cons_zero, List.set_cons_succ]
  refine takeH 17 23 (v := ?_) rfl rfl (by kernel_rfl) (by kernel_rfl) (by kernel_rfl) (fun _ _ _ h => h) (Or.inl ⟨by kernel_rfl, ?_⟩) hHeld ?_
  rotate_left 1
  · (intro v hSw; (try dsimp only at hSw); clear hSw; go_simp; (try with_reducible rfl))
  try simp only [Act.put, List.setIfInBounds_toArray, List.set_cons_zero, List.set_cons_succ]
  have hsz : w.drew.heap.size = w.heap.size := rfl
  have Bb : Below w.heap.size w (w1.alloc (.cells #[.map (some w.heap.size), .int .i64 s.room, .int .i64 s.left, .bool s.off] 50)) := hb.alloc hb.size _
  have Kb : Blk (w1.alloc (.cells #[.map (some w.heap.size), .int .i64 s.room, .int .i64 s.left, .bool s.off] 50)) w1.heap.size [.map (some w.heap.size), .int .i64 s.room, .int .i64 s.left, .bool s.off] := Blk.new w1 [.map (some w.heap.size), .int .i64 s.room, .int .i64 s.left, .bool s.off] 50
  have Mb : FilesM (w1.alloc (.cells #[.map (some w.heap.size), .int .i64 s.room, .int .i64 s.left, .bool s.off] 50)) w.heap.size s.L s.L.length := MapG.alloc M1 _
  have hz1 := hb.size
  have hml := M1.lt
  refine wpAnyH_ready (rs := [18]) (by kernel_rfl) (by simp) ?_
  refine AllReadyH.cons rfl (fun Kq hKq => ?_) AllReadyH.nil
  go_simp
  have hb : Below w.heap.size w (w1.alloc (.cells #[.map (some w.heap.size), .int .i64 s.room, .int .i64 s.left, .bool s.off] 50)) := Bb
  refine hKq.out _ _ hb (fun hHeld => ?_)
  clear hKq Kq
  try simp only [Act.put, List.setIfInBounds_toArray, List.set_cons_zero, List.set_cons_succ]
  refine wpAnyH_ready (rs := [19]) (by kernel_rfl) (by simp) ?_
  refine AllReadyH.cons rfl (fun Kq hKq => ?_) AllReadyH.nil
  go_simp
  refine hKq.out _ _ hb (fun hHeld => ?_)
  clear hKq Kq
  try simp only [Act.put, List.setIfInBounds_toArray, List.set_cons_zero, List.set_cons_succ]
  refine wpAnyH_done (by kernel_rfl) ?_ _
  clear hHeld
  go_wp2
  go_ret
  have hml' : w.heap.size < w1.heap.size := hml
  exact ⟨_, _, rfl, ⟨Kb, Mb, by omega⟩, by omega, Nat.le_refl _, Bb⟩

/-- Without a fuse the power does not fail. -/
theorem burn_calm {s : DS} {L : List Fl} {t : Bool} (h : s.left = 0) (ho : s.off = false) : (burnE s L t).1.left = 0 ∧ (burnE s L t).1.off = false := by
  unfold burnE
  rw [if_neg (by omega)]
  exact ⟨by show (if 0 < s.left then s.left - 1 else s.left) = 0; rw [if_neg (by omega)]; exact h, ho⟩
theorem stp_calm {c : Int} {s : DS} {nm to : ByteArray} {n : Int} {K : List Int} (hc : c < 6) (h : s.left = 0) (ho : s.off = false) : (stp c s nm to n K).left = 0 ∧ (stp c s nm to n K).off = false := by
  unfold stp
  by_cases h0 : c = 0
  · rw [if_pos h0]; unfold apD; repeat' split
    all_goals first | exact ⟨h, ho⟩ | exact burn_calm h ho
  rw [if_neg h0]
  by_cases h1 : c = 1
  · rw [if_pos h1]; unfold syD; repeat' split
    all_goals first | exact ⟨h, ho⟩ | exact burn_calm h ho
  rw [if_neg h1]
  by_cases h2 : c = 2
  · rw [if_pos h2]; unfold cuD; repeat' split
    all_goals first | exact ⟨h, ho⟩ | exact burn_calm h ho
  rw [if_neg h2]
  by_cases h3 : c = 3
  · rw [if_pos h3]; unfold reD; repeat' split
    all_goals first | exact ⟨h, ho⟩ | exact burn_calm h ho
  rw [if_neg h3]
  by_cases h4 : c = 4
  · rw [if_pos h4]; unfold rmD; repeat' split
    all_goals first | exact ⟨h, ho⟩ | exact burn_calm h ho
  rw [if_neg h4]
  by_cases h5 : c = 5
  · rw [if_pos h5]; exact ⟨h, ho⟩
  · rw [if_neg h5, if_neg (by omega), if_neg (by omega)]
    unfold waD
    rw [if_neg (by rw [ho]; simp)]
    exact ⟨h, ho⟩
theorem Pr.join {base : Nat} {w1 w2 : World} {d b : Nat} {s t : DS} (hD : Disk w1 d b s) (h1 : base ≤ d) (h2 : base ≤ b) (B2 : Below w1.heap.size w1 w2) (hQ : DD w2 w1.heap.size (.slice none 0 0) t) : Pr (fun _ => False) base w2 d b w1.heap.size s t := by
  have hl := hD.lt
  refine ⟨_, hD.pure B2, hQ, ⟨h1, h2, by omega, fun k hk => by cases hk⟩, fun k hk hd => ?_, fun k hk => hk.elim⟩
  rcases hk with rfl | hk
  · rcases hd with e | e <;> omega
  · cases hk
/-- 'does' without a fuse. -/
theorem does_calm (hLi : ListOk) {base : Nat} (w : World) (d b q : Nat) (s t : DS) (wh n : Int) (nm to : ByteArray) (ka : Option Addr) (kc : Nat) (K : List Int) (k : Nat) (h : Pr (fun _ => False) base w d b q s t) (hs : DOk s) (ht : DOk t) (ls : s.L.length ≤ k) (lt : t.L.length ≤ k) (hk : k < 900000) (hc : wh % 9 < 6) (hl0 : s.left = 0) (hof : s.off = false)
    (wh0 : 0 ≤ wh) (wh1 : wh ≤ 255) (hn1 : nm.size ≤ 100) (hn2 : to.size ≤ 2000) (hn : -9223372036854775808 ≤ n ∧ n ≤ 9223372036854775807) (hK : Slc (intEnc .i64) 1 w (.slice ka K.length kc) K) (hKb : K.length ≠ 0 → ∀ k, (Value.slice ka K.length kc).ownBlock = some k → k < base) :
    Calls Try.prog 12 #[.pointer (some ⟨d, 0, none⟩), .pointer (some ⟨q, 0, none⟩), .agg #[.int .u8 wh, .string nm, .string to, .int .i64 n, .slice ka K.length kc]] w fun e w' => ∃ r S, e = .returned (.bool r) ∧ DOk S ∧ S.L.length ≤ k + 1 ∧ S.left = 0 ∧ S.off = false ∧ Disk w' d b S ∧ Below base w w' :=
  (does_any hLi w d b q s t wh n nm to ka kc K h hs ht (by omega) (by omega) wh0 wh1 hn1 hn2 hn hK hKb).mono fun e w' ⟨r, g1, g2, g3, g4⟩ => ⟨r, _, g1, stp_ok hs hn.2, stp_len hs ls, (stp_calm hc hl0 hof).1, (stp_calm hc hl0 hof).2, g3.disk, g4.1⟩
theorem wa_cr (s : DS) (K : List Int) : waD (crD s) K = { crD s with off := false, L := keepL s.L K } := by
  unfold waD
  exact if_pos rfl
/-- What is kept of a file. -/
theorem kept_at {s : DS} (ho : DOk s) (hoff : s.off = false) (K : List Int) {j : Nat} (hj : j < s.L.length) :
    ∃ f : Fl, rdD (waD (crD s) K) s.L[j].n = (f.b, f.s, 0) ∧ s.L[j].s ≤ f.b.size ∧ f.b.size ≤ s.L[j].b.size ∧ f.b = s.L[j].b.extract 0 f.b.size ∧ f.s = f.b.size := by
  have hjk : j < (keepL s.L K).length := by rw [keepL_len]; exact hj
  have hat := keepL_at (K := K) hjk hj
  have hf := ho.file _ (List.getElem_mem hj)
  have hst := wa_cr s K
  have hok : DOk (waD (crD s) K) := wa_ok (cr_ok ho)
  rw [hst] at hok
  have hr := rdD_at hok rfl (k := j) hjk
  refine ⟨keepF s.L[j] K[j]?, ?_, ?_, ?_, ?_, (keepF_size hf _).symm⟩
  · rw [hst]
    have e : (keepL s.L K)[j].n = s.L[j].n := by rw [hat]; rfl
    simp only at hr
    rw [e] at hr
    rw [hr, hat]
  · have h1 := keepF_s hf K[j]?; have h2 := keepF_size hf K[j]?; omega
  · have h1 := keepF_s hf K[j]?; have h2 := keepF_size hf K[j]?; omega
  · have h2 := keepF_size hf K[j]?
    have h3 := keepF_b s.L[j] K[j]?
    have h4 : (keepF s.L[j] K[j]?).s.toNat = (keepF s.L[j] K[j]?).b.size := by omega
    rw [← h4]
    exact h3

set_option maxRecDepth 100000 in
set_option maxHeartbeats 12800000 in
theorem keeps_any (hLi : ListOk) (hCl : CloneOk) (w : World) (v : Value) (C : List Ac) (kvv : Value) (KK : List Int) (hS : Slc acEnc 5 w v C) (hC : ∀ x ∈ C, AcOk w x) (hKK : Slc (intEnc .i64) 1 w kvv KK) :
    Calls Try.prog 5 #[v, kvv] w fun e w' => e = .returned (.bool true) ∧ Below w.heap.size w w' := by
  obtain ⟨va, vc, rfl, hm⟩ := hS.len
  obtain ⟨kva, kvc, rfl, hmk⟩ := hKK.len
  have hKl0 := fun h0 => ints_low hKK h0
  have hKK' := Lib.hid hKK; clear hKK
  have hS' := Lib.hid hS; clear hS
  have hC' := hC; clear hC
  have hhead := head_any hLi
  have hhead' := Lib.hid hhead; clear hhead
  have ho0 : DOk ⟨[], 1000, 0, false⟩ := DOk.new (by omega) (by omega)
  have ho1 : DOk ⟨[], maxI 0 0, 0, false⟩ := maxI_room (by omega)
  have ho1' := Lib.hid ho1; clear ho1
  have hLi' := Lib.hid hLi; clear hLi
  have hCl' := Lib.hid hCl; clear hCl
  have hnew := new_any w 1000
  have q0 : maxI 1000 0 = 1000 := rfl
  rw [q0] at hnew
  unfold maxLen at hm
  go_enter Try.func5, Try.ntmps5
  go_wp2_with (go_at_call 8; (with_reducible refine hnew.mono ?_); clear hnew; rintro e w1 ⟨rfl, B1, D1⟩)
  have D1' := Lib.hid D1; clear D1
  have B1' := Lib.hid B1; clear B1
  go_loopw [6] (fun s6 wr => ∃ (k : Nat) (s : DS), k ≤ C.length ∧ k ≤ 40 ∧ s6 = .int .i64 k ∧ DOk s ∧ s.L.length ≤ k ∧ s.left = 0 ∧ s.off = false ∧ Disk wr (w.heap.size + 1) w.heap.size s ∧ Below w.heap.size w wr) (fun s6 _ => C.length - (intOf s6).toNat)
  case atStart => exact ⟨0, _, by omega, by omega, rfl, ho0, by simp, rfl, rfl, D1'.out, B1'.out⟩
  case round =>
    obtain ⟨k, s, hk, hk6, rfl, ho, hl, hl0, hof, hD, hB⟩ := hrel
    clear ho0
    by_cases hgo2 : k < C.length ∧ k < 40
    · obtain ⟨hlt, h6⟩ := hgo2
      have hrd : True := trivial
      have hgr := True
      · obtain ⟨x, hx⟩ : ∃ x, x = C[k] := ⟨_, rfl⟩
        have hox : AcOk w x := by rw [hx]; exact hC' _ (List.getElem_mem hlt)
        obtain ⟨K, hK⟩ := hox.kp
        obtain ⟨ka, kc, hkv, -⟩ := hK.len
        obtain ⟨g, off, cap, ev, hc⟩ := hS'.out.atd k hlt
        rw [← hx] at hc
        obtain ⟨xw, xn, xt, xi, xk⟩ := x
        simp only at hkv hK hox
        subst hkv
        have hcs := fun u (hu : Below w.heap.size w u) => act_cells hc hu
        simp only [Value.slice.injEq, and_true, true_and] at ev
        obtain ⟨rfl, rfl⟩ := ev
        simp only at hcs
        obtain ⟨c0, c1, c2, c3, c4⟩ := hcs wr hB
        have hcs' := Lib.hid hcs; clear hcs
        have hw := hox.wh; have hi := hox.ii
        simp only at hw hi
        obtain ⟨hw0, hw1⟩ := hw
        have hKl := fun h0 => ints_low hK h0
        have hKr : ∀ u, Below w.heap.size w u → Slc (intEnc .i64) 1 u (.slice ka K.length kc) K := fun u hu => hK.low hu hKl
        clear hc hx hox
        have hg := great_any wr xw xi xn xt ka kc K.length
        have hsz := hB.size
        by_cases hG : xn.size ≤ 100 ∧ xt.size ≤ 2000 ∧ K.length ≤ 100
        · rw [decide_eq_false (fun h => h hG)] at hg
          obtain ⟨hG1, hG2, hG3⟩ := hG
          have hgo : Calls Try.prog 10 #[.agg #[.int .u8 xw, .string xn, .string xt, .int .i64 xi, .slice ka K.length kc]] wr fun e w' => e = .returned (.bool false) ∧ Disk w' (w.heap.size + 1) w.heap.size s ∧ Below w.heap.size w w' := hg.mono fun e w' ⟨g1, g2⟩ => ⟨g1, hD.pure g2, hB.trans (g2.mono hsz)⟩
          clear hg
          by_cases h9 : xw % 9 < 6
          · have hdo := fun u q t (hu : Pr (fun _ => False) w.heap.size u (w.heap.size + 1) w.heap.size q s t) (hT : DOk t) (lT : t.L.length ≤ k) (hb : Below w.heap.size w u) => does_calm hLi'.out u (w.heap.size + 1) w.heap.size q s t xw xi xn xt ka kc K k hu ho hT hl lT (by omega) h9 hl0 hof hw0 hw1 hG1 hG2 hi (hKr u hb) hKl
            have hdo' := Lib.hid hdo; clear hdo
            clear hKr hKl hC' hD ho
            go_wp2_with (go_at_call 10; (with_reducible refine hgo.mono ?_); clear hgo; rintro e w3 ⟨rfl, D3, B3⟩; obtain ⟨e0, e1, e2, e3, e4⟩ := hcs'.out w3 B3)
            clear e0 e1 e2 e3 e4 c0 c1 c2 c3 c4
            have hb := B3.drew
            refine wp_region_held_drew (S := fun v => Below w.heap.size w v) (by kernel_rfl) hb (fun hHeld => ?_)
            refine takeH 0 45 (v := ?_) rfl rfl (by kernel_rfl) (by kernel_rfl) (by kernel_rfl) (fun _ _ _ h => h) (Or.inl ⟨by kernel_rfl, ?_⟩) hHeld ?_
            rotate_left 1
            · (intro v hSw; (try dsimp only at hSw); clear hSw; go_simp; (try with_reducible rfl))
            try simp only [Act.put, List.setIfInBounds_toArray, List.set_cons_zero, List.set_cons_succ]
            refine takeH 2 47 (v := ?_) rfl rfl (by kernel_rfl) (by kernel_rfl) (by kernel_rfl) (fun _ _ _ h => h) (Or.inl ⟨by kernel_rfl, ?_⟩) hHeld ?_
            rotate_left 1
            · (intro v hSw; (try dsimp only at hSw); clear hSw; go_simp; (try with_reducible rfl))
            try simp only [Act.put, List.setIfInBounds_toArray, List.set_cons_zero, List.set_cons_succ]
            refine takeH 3 48 (v := ?_) rfl rfl (by kernel_rfl) (by kernel_rfl) (by kernel_rfl) (fun _ _ _ h => h) (Or.inl ⟨by kernel_rfl, ?_⟩) hHeld ?_
            rotate_left 1
            · (intro v hSw; (try dsimp only at hSw); clear hSw; go_simp; (try with_reducible rfl))
            try simp only [Act.put, List.setIfInBounds_toArray, List.set_cons_zero, List.set_cons_succ]
            refine takeH 4 49 (v := ?_) rfl rfl (by kernel_rfl) (by kernel_rfl) (by kernel_rfl) (fun _ _ _ h => h) (Or.inl ⟨by kernel_rfl, ?_⟩) hHeld ?_
            rotate_left 1
            · (intro v hSw; (try dsimp only at hSw); clear hSw; go_simp; (try with_reducible rfl))
            try simp only [Act.put, List.setIfInBounds_toArray, List.set_cons_zero, List.set_cons_succ]
            refine takeH 5 50 (v := ?_) rfl rfl (by kernel_rfl) (by kernel_rfl) (by kernel_rfl) (fun _ _ _ h => h) (Or.inl ⟨by kernel_rfl, ?_⟩) hHeld ?_
            rotate_left 1
            · (intro v hSw; (try dsimp only at hSw); have q0 := hcs'.out v hSw; obtain ⟨e0, e1, e2, e3, e4⟩ := q0; clear hSw; go_simp; (try with_reducible rfl))
            try simp only [Act.put, List.setIfInBounds_toArray, List.set_cons_zero, List.set_cons_succ]
            refine wpAnyH_ready (rs := [1]) (by kernel_rfl) (by simp) ?_
            refine AllReadyH.cons rfl (fun Kq hKq => ?_) AllReadyH.nil
            go_simp
            (go_at_call 9; (with_reducible refine (dnew_any _ 0).mono ?_); rintro e w4 ⟨rfl, B4, Q4⟩)
            have P4 : Pr (fun _ => False) w.heap.size w4 (w.heap.size + 1) w.heap.size w3.heap.size s ⟨[], maxI 0 0, 0, false⟩ := Pr.join (base := w.heap.size) (w1 := w3.drew) (D3.pure ((Below.refl _ w3).drew)) (by omega) (Nat.le_refl _) B4 Q4
            have hb : Below w.heap.size w w4 := B3.drew.trans (B4.mono B3.size)
            refine hKq.out _ _ hb (fun hHeld => ?_)
            clear hKq Kq
            try simp only [Act.put, List.setIfInBounds_toArray, List.set_cons_zero, List.set_cons_succ]
            refine wpAnyH_ready (rs := [6]) (by kernel_rfl) (by simp) ?_
            refine AllReadyH.cons rfl (fun Kq hKq => ?_) AllReadyH.nil
            go_simp
            (go_at_call 12; (with_reducible refine (hdo'.out w4 w3.heap.size _ P4 ho1'.out (by simp) hb).mono ?_); rintro e w5 ⟨r, S, rfl, hoS, hlS, hlS0, hofS, D5, B5⟩)
            have hb : Below w.heap.size w w5 := hb.trans B5
            refine hKq.out _ _ hb (fun hHeld => ?_)
            clear hKq Kq
            try simp only [Act.put, List.setIfInBounds_toArray, List.set_cons_zero, List.set_cons_succ]
            refine wpAnyH_done (by kernel_rfl) ?_ _
            clear hHeld
            have hb' := Lib.hid hb; clear hb
            have hoS' := Lib.hid hoS
            clear hoS
            go_wp2
            go_roundw
            case rel => exact ⟨k + 1, S, by omega, by omega, by go_num, hoS'.out, hlS, hlS0, hofS, D5, hb'.out⟩
            case measure => simp [intOf]; omega
          · go_wp2_with (go_at_call 10; (with_reducible refine hgo.mono ?_); clear hgo; rintro e w3 ⟨rfl, D3, B3⟩; obtain ⟨e0, e1, e2, e3, e4⟩ := hcs'.out w3 B3)
            go_roundw
            case rel => exact ⟨k + 1, s, by omega, by omega, by go_num, ho, by omega, hl0, hof, D3, B3⟩
            case measure => simp [intOf]; omega
        · rw [decide_eq_true hG] at hg
          have hgo : Calls Try.prog 10 #[.agg #[.int .u8 xw, .string xn, .string xt, .int .i64 xi, .slice ka K.length kc]] wr fun e w' => e = .returned (.bool true) ∧ Disk w' (w.heap.size + 1) w.heap.size s ∧ Below w.heap.size w w' := hg.mono fun e w' ⟨g1, g2⟩ => ⟨g1, hD.pure g2, hB.trans (g2.mono hsz)⟩
          clear hg
          go_wp2_with (go_at_call 10; (with_reducible refine hgo.mono ?_); clear hgo; rintro e w3 ⟨rfl, D3, B3⟩)
          go_roundw
          case rel => exact ⟨k + 1, s, by omega, by omega, by go_num, ho, by omega, hl0, hof, D3, B3⟩
          case measure => simp [intOf]; omega
    · by_cases hlt : k < C.length
      · have h6 : ¬ k < 40 := fun h => hgo2 ⟨hlt, h⟩
        clear hgo2
        have hD9 := hD
        have hdl := hD.lt
        have hS2 : DOk (waD (crD s) KK) := wa_ok (cr_ok ho)
        have hS2' := Lib.hid hS2; clear hS2
        have hlen2 : (waD (crD s) KK).L.length = s.L.length := by rw [wa_len]; rfl
        have hof2 : (waD (crD s) KK).off = false := by rw [wa_cr]
        have hlen2' := Lib.hid hlen2; clear hlen2
        have hof2' := Lib.hid hof2; clear hof2
        have hkept := fun j (hj : j < s.L.length) => kept_at ho hof KK hj
        have hkept' := Lib.hid hkept; clear hkept
        have hoo := Lib.hid ho; clear ho
        have cC := copy_any hCl'.out wr _ _ s hD
        have hsz := hB.size
        have hKr : ∀ u, Below w.heap.size w u → Slc (intEnc .i64) 1 u (.slice kva KK.length kvc) KK := fun u hu => hKK'.out.low hu hKl0
        have hKr' := Lib.hid hKr; clear hKr
        have cW := fun u (hu : Disk u (w.heap.size + 1) w.heap.size (crD s)) (hb : Below w.heap.size w u) => wake_any hLi'.out u (w.heap.size + 1) w.heap.size (crD s) (.slice kva KK.length kvc) KK hu (cr_ok hoo.out) (by show s.L.length < 1000000; omega) (hKr'.out u hb) (fun h0 i hi hd => by have := hKl0 h0 i hi; rcases hd with h | h <;> omega)
        have cW' := Lib.hid cW; clear cW
        have cL1 := fun u d0 b0 (hu : Disk u d0 b0 s) => hLi'.out u d0 b0 s hu hoo.out (by omega)
        have cL2 := fun u (hu : Disk u (w.heap.size + 1) w.heap.size (waD (crD s) KK)) => hLi'.out u _ _ _ hu hS2'.out (by rw [hlen2'.out]; omega)
        have cL1' := Lib.hid cL1; have cL2' := Lib.hid cL2; clear cL1 cL2
        have hKl' := Lib.hid hKl0; clear hKl0
        clear hC'
        go_wp2_with (first
          | (go_at_call 18; (with_reducible refine cC.mono ?_); clear cC; rintro e w3 ⟨d2, b2, rfl, E3, hd2, hb2, B3⟩; have D3 := hD.pure B3; have A3 := hB.trans (B3.mono hsz); have cK := crash_any w3 _ _ s D3)
          | (go_at_call 19; (with_reducible refine cK.mono ?_); clear cK; rintro e w4 ⟨rfl, D4, U4⟩; have A4 := A3.trans (U4.below A3.size (fun k hk => by rcases hk with rfl | rfl <;> omega)); have E4 : Disk w4 d2 b2 s := E3.upd U4 (fun h => by rcases h with h | h <;> omega) (fun h => by rcases h with h | h <;> omega); have k4 : w4.cell? ⟨w.heap.size + 1, 3, none⟩ = some (.bool true) := D4.c3; have k5 : w4.cell? ⟨d2, 3, none⟩ = some (.bool false) := (by rw [← hof]; exact E4.c3); have j4 := D4.c0; have j5 := E4.c0)
          | (go_at_call 17; first
            | ((with_reducible refine (down_ok w4 (w.heap.size + 1) w.heap.size true j4 k4).mono ?_); rintro e _ ⟨rfl, rfl⟩)
            | ((with_reducible refine (down_ok w4 d2 b2 false j5 k5).mono ?_); rintro e _ ⟨rfl, rfl⟩)
            | ((with_reducible refine (down_ok w7 (w.heap.size + 1) w.heap.size false j7 k7).mono ?_); rintro e _ ⟨rfl, rfl⟩))
          | (go_at_call 20; (with_reducible refine (cW'.out w4 D4 A4).mono ?_); rintro e w5 ⟨rfl, D5, U5⟩; have A5 := A4.trans (U5.below A4.size (fun k hk => by rcases hk with rfl | rfl <;> omega)); have E5 : Disk w5 d2 b2 s := E4.upd U5 (fun h => by rcases h with h | h <;> omega) (fun h => by rcases h with h | h <;> omega))
          | (go_at_call 14; first
            | ((with_reducible refine (cL1'.out w5 d2 b2 E5).mono ?_); rintro e w6 ⟨l6, rfl, O6, B6⟩; obtain ⟨la, lc, rfl⟩ := O6.lens; have D6 := D5.pure B6; have E6 := E5.pure B6; have A6 := A5.trans (B6.mono A5.size))
            | ((with_reducible refine (cL2'.out w6 D6).mono ?_); rintro e w7 ⟨l7, rfl, O7, B7⟩; obtain ⟨ma, mc, rfl⟩ := O7.lens; have D7 := D6.pure B7; have E7 := E6.pure B7; have A7 := A6.trans (B7.mono A6.size); have O67 := O6.pure B7; have hl7 := hlen2'.out; have j7 := D7.c0; have k7 : w7.cell? ⟨w.heap.size + 1, 3, none⟩ = some (.bool false) := (by rw [← hof2'.out]; exact D7.c3))))
        have hn : (s.L.map Fl.n).length = s.L.length := List.length_map ..
        rw [hn] at O67
        have O' := Lib.hid O67
        clear O6 O67 O7 D3 D4 D5 D6 E3 E4 E5 E6 B3 U4 U5 B6 B7 A3 A4 A5 A6 hD hD9 hKr' hKl' hdl
        obtain ⟨wo, rfl⟩ : ∃ wo, wo = wr := ⟨_, rfl⟩
        go_loopw [9] (fun s9 wr => ∃ j : Nat, j ≤ s.L.length ∧ s9 = .int .i64 j ∧ Below w7.heap.size w7 wr) (fun s9 _ => s.L.length - (intOf s9).toNat)
        case atStart => exact ⟨0, by omega, rfl, Below.refl _ _⟩
        case round =>
          obtain ⟨j, hj, rfl, hBi⟩ := hrel
          have D8 := D7.pure hBi
          have E8 := E7.pure hBi
          by_cases hjl : j < s.L.length
          · have hjn : j < (s.L.map Fl.n).length := by rw [hn]; exact hjl
            obtain ⟨g1, c1, e1, h1, -⟩ := Own.atd strEnc_len (O'.out.pure hBi) j hjn
            have hnm : (s.L.map Fl.n)[j] = s.L[j].n := by simp
            have i1 := h1 0 (.string s.L[j].n) (by rw [hnm]; rfl)
            simp only [Value.slice.injEq, Nat.mul_one, Nat.add_zero, and_true, true_and, hn] at e1 i1
            obtain ⟨rfl, rfl⟩ := e1
            clear h1 hnm
            have hxo := mayN_ok (hoo.out.file _ (List.getElem_mem hjl)).1
            have hrd := rdD_at hoo.out hof hjl
            obtain ⟨f, hf0, hf1, hf2, hf3, hf4⟩ := hkept'.out j hjl
            have r1 := fun u (hu : Disk u d2 b2 s) => read_any u d2 b2 s s.L[j].n hu hxo
            have r2 := fun u (hu : Disk u d2 b2 s) => safe_any u d2 b2 s s.L[j].n hu hxo
            have r3 := fun u (hu : Disk u (w.heap.size + 1) w.heap.size (waD (crD s) KK)) => read_any u _ _ _ s.L[j].n hu hxo
            have r4 := fun u (hu : Disk u (w.heap.size + 1) w.heap.size (waD (crD s) KK)) => safe_any u _ _ _ s.L[j].n hu hxo
            rw [hrd] at r1 r2
            rw [hf0] at r3 r4
            simp only at r1 r2 r3 r4
            rw [hf4] at r4
            have r1' := Lib.hid r1; have r2' := Lib.hid r2; have r3' := Lib.hid r3; have r4' := Lib.hid r4
            clear r1 r2 r3 r4 hrd hf0 hf4
            have hf3' : s.L[j].b.extract 0 f.b.size = f.b := hf3.symm
            clear hf3
            obtain ⟨B, hB0⟩ : ∃ B, s.L[j].b = B := ⟨_, rfl⟩
            obtain ⟨fs, hfs⟩ : ∃ fs, s.L[j].s = fs := ⟨_, rfl⟩
            obtain ⟨T, hT⟩ : ∃ T, f.b = T := ⟨_, rfl⟩
            rw [hB0] at r1'
            rw [hfs] at r2'
            rw [hT] at r3' r4' hf3' hf1 hf2
            rw [hB0] at hf3' hf2
            rw [hfs] at hf1
            clear hB0 hfs hT
            go_wp2_with (first
              | (go_at_call 15; first
                | ((with_reducible refine (r1'.out wr E8).mono ?_); rintro e y1 ⟨rfl, Y1⟩; have E9 := E8.pure Y1; have D9 := D8.pure Y1; have i2 := (Y1.cell (World.block_lt_of_cell? wr _ i1)).trans i1)
                | ((with_reducible refine (r3'.out y2 D10).mono ?_); rintro e y3 ⟨rfl, Y3⟩; have D11 := D10.pure Y3; have i4 := (Y3.cell (World.block_lt_of_cell? y2 _ i3)).trans i3))
              | (go_at_call 21; first
                | ((with_reducible refine (r2'.out y1 E9).mono ?_); rintro e y2 ⟨rfl, Y2⟩; have D10 := D9.pure Y2; have i3 := (Y2.cell (World.block_lt_of_cell? y1 _ i2)).trans i2)
                | ((with_reducible refine (r4'.out y3 D11).mono ?_); rintro e y4 ⟨rfl, Y4⟩; have X1 := Y1.trans (Y2.mono Y1.size); have X2 := X1.trans (Y3.mono X1.size); have X3 := X2.trans (Y4.mono X2.size))))
            have hBn := hBi.trans (X3.mono hBi.size)
            go_roundw
            case rel => exact ⟨j + 1, by omega, by go_num, hBn⟩
            case measure => simp [intOf]; omega
          · have A8 := A7.trans (hBi.mono A7.size)
            go_wp2_with (go_at_call 11; (with_reducible refine (hhead'.out wr).mono ?_); rintro e w9 ⟨rfl, B9⟩)
            go_ret
            exact ⟨rfl, A8.trans (B9.mono A8.size)⟩
      · clear hgo2
        have hD9 := hD
        have hdl := hD.lt
        have hS2 : DOk (waD (crD s) KK) := wa_ok (cr_ok ho)
        have hS2' := Lib.hid hS2; clear hS2
        have hlen2 : (waD (crD s) KK).L.length = s.L.length := by rw [wa_len]; rfl
        have hof2 : (waD (crD s) KK).off = false := by rw [wa_cr]
        have hlen2' := Lib.hid hlen2; clear hlen2
        have hof2' := Lib.hid hof2; clear hof2
        have hkept := fun j (hj : j < s.L.length) => kept_at ho hof KK hj
        have hkept' := Lib.hid hkept; clear hkept
        have hoo := Lib.hid ho; clear ho
        have cC := copy_any hCl'.out wr _ _ s hD
        have hsz := hB.size
        have hKr : ∀ u, Below w.heap.size w u → Slc (intEnc .i64) 1 u (.slice kva KK.length kvc) KK := fun u hu => hKK'.out.low hu hKl0
        have hKr' := Lib.hid hKr; clear hKr
        have cW := fun u (hu : Disk u (w.heap.size + 1) w.heap.size (crD s)) (hb : Below w.heap.size w u) => wake_any hLi'.out u (w.heap.size + 1) w.heap.size (crD s) (.slice kva KK.length kvc) KK hu (cr_ok hoo.out) (by show s.L.length < 1000000; omega) (hKr'.out u hb) (fun h0 i hi hd => by have := hKl0 h0 i hi; rcases hd with h | h <;> omega)
        have cW' := Lib.hid cW; clear cW
        have cL1 := fun u d0 b0 (hu : Disk u d0 b0 s) => hLi'.out u d0 b0 s hu hoo.out (by omega)
        have cL2 := fun u (hu : Disk u (w.heap.size + 1) w.heap.size (waD (crD s) KK)) => hLi'.out u _ _ _ hu hS2'.out (by rw [hlen2'.out]; omega)
        have cL1' := Lib.hid cL1; have cL2' := Lib.hid cL2; clear cL1 cL2
        have hKl' := Lib.hid hKl0; clear hKl0
        clear hC'
        go_wp2_with (first
          | (go_at_call 18; (with_reducible refine cC.mono ?_); clear cC; rintro e w3 ⟨d2, b2, rfl, E3, hd2, hb2, B3⟩; have D3 := hD.pure B3; have A3 := hB.trans (B3.mono hsz); have cK := crash_any w3 _ _ s D3)
          | (go_at_call 19; (with_reducible refine cK.mono ?_); clear cK; rintro e w4 ⟨rfl, D4, U4⟩; have A4 := A3.trans (U4.below A3.size (fun k hk => by rcases hk with rfl | rfl <;> omega)); have E4 : Disk w4 d2 b2 s := E3.upd U4 (fun h => by rcases h with h | h <;> omega) (fun h => by rcases h with h | h <;> omega); have k4 : w4.cell? ⟨w.heap.size + 1, 3, none⟩ = some (.bool true) := D4.c3; have k5 : w4.cell? ⟨d2, 3, none⟩ = some (.bool false) := (by rw [← hof]; exact E4.c3); have j4 := D4.c0; have j5 := E4.c0)
          | (go_at_call 17; first
            | ((with_reducible refine (down_ok w4 (w.heap.size + 1) w.heap.size true j4 k4).mono ?_); rintro e _ ⟨rfl, rfl⟩)
            | ((with_reducible refine (down_ok w4 d2 b2 false j5 k5).mono ?_); rintro e _ ⟨rfl, rfl⟩)
            | ((with_reducible refine (down_ok w7 (w.heap.size + 1) w.heap.size false j7 k7).mono ?_); rintro e _ ⟨rfl, rfl⟩))
          | (go_at_call 20; (with_reducible refine (cW'.out w4 D4 A4).mono ?_); rintro e w5 ⟨rfl, D5, U5⟩; have A5 := A4.trans (U5.below A4.size (fun k hk => by rcases hk with rfl | rfl <;> omega)); have E5 : Disk w5 d2 b2 s := E4.upd U5 (fun h => by rcases h with h | h <;> omega) (fun h => by rcases h with h | h <;> omega))
          | (go_at_call 14; first
            | ((with_reducible refine (cL1'.out w5 d2 b2 E5).mono ?_); rintro e w6 ⟨l6, rfl, O6, B6⟩; obtain ⟨la, lc, rfl⟩ := O6.lens; have D6 := D5.pure B6; have E6 := E5.pure B6; have A6 := A5.trans (B6.mono A5.size))
            | ((with_reducible refine (cL2'.out w6 D6).mono ?_); rintro e w7 ⟨l7, rfl, O7, B7⟩; obtain ⟨ma, mc, rfl⟩ := O7.lens; have D7 := D6.pure B7; have E7 := E6.pure B7; have A7 := A6.trans (B7.mono A6.size); have O67 := O6.pure B7; have hl7 := hlen2'.out; have j7 := D7.c0; have k7 : w7.cell? ⟨w.heap.size + 1, 3, none⟩ = some (.bool false) := (by rw [← hof2'.out]; exact D7.c3))))
        have hn : (s.L.map Fl.n).length = s.L.length := List.length_map ..
        rw [hn] at O67
        have O' := Lib.hid O67
        clear O6 O67 O7 D3 D4 D5 D6 E3 E4 E5 E6 B3 U4 U5 B6 B7 A3 A4 A5 A6 hD hD9 hKr' hKl' hdl
        obtain ⟨wo, rfl⟩ : ∃ wo, wo = wr := ⟨_, rfl⟩
        go_loopw [9] (fun s9 wr => ∃ j : Nat, j ≤ s.L.length ∧ s9 = .int .i64 j ∧ Below w7.heap.size w7 wr) (fun s9 _ => s.L.length - (intOf s9).toNat)
        case atStart => exact ⟨0, by omega, rfl, Below.refl _ _⟩
        case round =>
          obtain ⟨j, hj, rfl, hBi⟩ := hrel
          have D8 := D7.pure hBi
          have E8 := E7.pure hBi
          by_cases hjl : j < s.L.length
          · have hjn : j < (s.L.map Fl.n).length := by rw [hn]; exact hjl
            obtain ⟨g1, c1, e1, h1, -⟩ := Own.atd strEnc_len (O'.out.pure hBi) j hjn
            have hnm : (s.L.map Fl.n)[j] = s.L[j].n := by simp
            have i1 := h1 0 (.string s.L[j].n) (by rw [hnm]; rfl)
            simp only [Value.slice.injEq, Nat.mul_one, Nat.add_zero, and_true, true_and, hn] at e1 i1
            obtain ⟨rfl, rfl⟩ := e1
            clear h1 hnm
            have hxo := mayN_ok (hoo.out.file _ (List.getElem_mem hjl)).1
            have hrd := rdD_at hoo.out hof hjl
            obtain ⟨f, hf0, hf1, hf2, hf3, hf4⟩ := hkept'.out j hjl
            have r1 := fun u (hu : Disk u d2 b2 s) => read_any u d2 b2 s s.L[j].n hu hxo
            have r2 := fun u (hu : Disk u d2 b2 s) => safe_any u d2 b2 s s.L[j].n hu hxo
            have r3 := fun u (hu : Disk u (w.heap.size + 1) w.heap.size (waD (crD s) KK)) => read_any u _ _ _ s.L[j].n hu hxo
            have r4 := fun u (hu : Disk u (w.heap.size + 1) w.heap.size (waD (crD s) KK)) => safe_any u _ _ _ s.L[j].n hu hxo
            rw [hrd] at r1 r2
            rw [hf0] at r3 r4
            simp only at r1 r2 r3 r4
            rw [hf4] at r4
            have r1' := Lib.hid r1; have r2' := Lib.hid r2; have r3' := Lib.hid r3; have r4' := Lib.hid r4
            clear r1 r2 r3 r4 hrd hf0 hf4
            have hf3' : s.L[j].b.extract 0 f.b.size = f.b := hf3.symm
            clear hf3
            obtain ⟨B, hB0⟩ : ∃ B, s.L[j].b = B := ⟨_, rfl⟩
            obtain ⟨fs, hfs⟩ : ∃ fs, s.L[j].s = fs := ⟨_, rfl⟩
            obtain ⟨T, hT⟩ : ∃ T, f.b = T := ⟨_, rfl⟩
            rw [hB0] at r1'
            rw [hfs] at r2'
            rw [hT] at r3' r4' hf3' hf1 hf2
            rw [hB0] at hf3' hf2
            rw [hfs] at hf1
            clear hB0 hfs hT
            go_wp2_with (first
              | (go_at_call 15; first
                | ((with_reducible refine (r1'.out wr E8).mono ?_); rintro e y1 ⟨rfl, Y1⟩; have E9 := E8.pure Y1; have D9 := D8.pure Y1; have i2 := (Y1.cell (World.block_lt_of_cell? wr _ i1)).trans i1)
                | ((with_reducible refine (r3'.out y2 D10).mono ?_); rintro e y3 ⟨rfl, Y3⟩; have D11 := D10.pure Y3; have i4 := (Y3.cell (World.block_lt_of_cell? y2 _ i3)).trans i3))
              | (go_at_call 21; first
                | ((with_reducible refine (r2'.out y1 E9).mono ?_); rintro e y2 ⟨rfl, Y2⟩; have D10 := D9.pure Y2; have i3 := (Y2.cell (World.block_lt_of_cell? y1 _ i2)).trans i2)
                | ((with_reducible refine (r4'.out y3 D11).mono ?_); rintro e y4 ⟨rfl, Y4⟩; have X1 := Y1.trans (Y2.mono Y1.size); have X2 := X1.trans (Y3.mono X1.size); have X3 := X2.trans (Y4.mono X2.size))))
            have hBn := hBi.trans (X3.mono hBi.size)
            go_roundw
            case rel => exact ⟨j + 1, by omega, by go_num, hBn⟩
            case measure => simp [intOf]; omega
          · have A8 := A7.trans (hBi.mono A7.size)
            go_wp2_with (go_at_call 11; (with_reducible refine (hhead'.out wr).mono ?_); rintro e w9 ⟨rfl, B9⟩)
            go_ret
            exact ⟨rfl, A8.trans (B9.mono A8.size)⟩
end Go.Proofs.Ytgpdbifgbabnnaa
