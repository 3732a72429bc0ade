/- The program's disk and the document's side by side ('Pr'); the laws' 'does'. Conditions: both disks are right, of less than 900000 files; texts of a fit length. Written by gen_dlA.py. -/
import Derived.Test.YtgpdbifgbabnnaaDrD
import Derived.Test.YtgpdbifgbabnnaaDkD
import Derived.Test.YtgpdbifgbabnnaaDkE
import Derived.Test.YtgpdbifgbabnnaaDkH
namespace Go.Proofs.Ytgpdbifgbabnnaa
open Go.RowKit
set_option linter.unusedVariables false
set_option linter.unusedSimpArgs false
/-- The two disks in a world, apart from each other, from what lay below base, and from the blocks X. -/
def Pr (X : Nat → Prop) (base : Nat) (w : World) (d b q : Nat) (s t : DS) : Prop := ∃ v, Disk w d b s ∧ DD w q v t ∧ (base ≤ d ∧ base ≤ b ∧ base ≤ q ∧ ∀ k, v.ownBlock = some k → base ≤ k) ∧
  (∀ k, DQ q v k → ¬ DiskS d b k) ∧ ∀ k, X k → k < w.heap.size ∧ ¬ DiskS d b k ∧ ¬ DQ q v k
/-- What stays. -/
def KX (X : Nat → Prop) (base : Nat) (w w' : World) : Prop := Below base w w' ∧ ∀ k, X k → w'.heap[k]? = w.heap[k]?
section
variable {X : Nat → Prop} {base : Nat} {w w' w2 : World} {d b q : Nat} {s t s' t' : DS}
theorem KX.trans (h : KX X base w w') (k : KX X base w' w2) : KX X base w w2 := ⟨h.1.trans k.1, fun i hi => (k.2 i hi).trans (h.2 i hi)⟩
theorem KX.dr (h : KX X base w.drew w') : KX X base w w' := ⟨((Below.refl base w).drew).trans h.1, fun k hk => h.2 k hk⟩
theorem KX.refl : KX X base w w := ⟨Below.refl _ _, fun _ _ => rfl⟩
theorem KX.blk {cs : List Value} {k : Nat} (h : KX X base w w') (hk : X k) (hb : Blk w k cs) : Blk w' k cs := hb.keep (h.2 k hk)
theorem Pr.size (h : Pr X base w d b q s t) : base ≤ w.heap.size := by
  obtain ⟨v, h1, h2, ⟨h3, -⟩, -⟩ := h
  have := h1.lt; omega
theorem Pr.prog (h : Pr X base w d b q s t) (hD : Disk w' d b s') (hU : Upd (DiskS d b) w w') : Pr X base w' d b q s' t ∧ KX X base w w' := by
  have hs := h.size
  obtain ⟨v, h1, h2, h3, h4, h5⟩ := h
  refine ⟨⟨v, hD, h2.upd hU h4, h3, h4, fun k hk => ⟨Nat.lt_of_lt_of_le (h5 k hk).1 hU.size, (h5 k hk).2⟩⟩, hU.below hs (fun k hk => by rcases hk with rfl | rfl; exact h3.1; exact h3.2.1), fun k hk => hU.block k (h5 k hk).1 (h5 k hk).2.1⟩
theorem Pr.doc {v : Value} (h1 : Disk w d b s) (h2 : DD w q v t) (h3 : base ≤ d ∧ base ≤ b ∧ base ≤ q ∧ ∀ k, v.ownBlock = some k → base ≤ k) (h4 : ∀ k, DQ q v k → ¬ DiskS d b k) (h5 : ∀ k, X k → k < w.heap.size ∧ ¬ DiskS d b k ∧ ¬ DQ q v k) (hT : DT w w' q v t') : Pr X base w' d b q s t' ∧ KX X base w w' := by
  have hs : base ≤ w.heap.size := by have := h1.lt; omega
  have hlt := h1.lt
  obtain ⟨v', g1, g2, g3⟩ := hT
  refine ⟨⟨v', h1.upd g2 (fun i => h4 d i (.inl rfl)) (fun i => h4 b i (.inr rfl)), g1, ⟨h3.1, h3.2.1, h3.2.2.1, fun k hk => ?_⟩, fun k hk => ?_, fun k hk => ⟨Nat.lt_of_lt_of_le (h5 k hk).1 g2.size, (h5 k hk).2.1, fun hq => ?_⟩⟩, g2.below hs (fun k hk => ?_), fun k hk => g2.block k (h5 k hk).1 (h5 k hk).2.2⟩
  · rcases g3 k (.inr hk) with i | i
    · rcases i with rfl | i
      · exact h3.2.2.1
      · exact h3.2.2.2 k i
    · omega
  · rcases g3 k hk with i | i
    · exact h4 k i
    · intro hd
      rcases hd with rfl | rfl <;> omega
  · rcases g3 k hq with i | i
    · exact (h5 k hk).2.2 i
    · have := (h5 k hk).1; omega
  · rcases hk with rfl | hk
    · exact h3.2.2.1
    · exact h3.2.2.2 k hk
theorem Pr.pure (h : Pr X base w d b q s t) (hB : Below w.heap.size w w') : Pr X base w' d b q s t ∧ KX X base w w' := by
  have hs := h.size
  obtain ⟨v, h1, h2, h3, h4, h5⟩ := h
  exact ⟨⟨v, h1.pure hB, h2.pure hB, h3, h4, fun k hk => ⟨Nat.lt_of_lt_of_le (h5 k hk).1 hB.size, (h5 k hk).2⟩⟩, hB.mono hs, fun k hk => hB.block k (h5 k hk).1⟩
theorem Pr.drew (h : Pr X base w d b q s t) : Pr X base w.drew d b q s t := by
  obtain ⟨v, h1, h2, h3, h4, h5⟩ := h
  exact ⟨v, ⟨h1.1.drew, h1.2.1, h1.2.2⟩, h2.drew, h3, h4, h5⟩
/-- A new block joins those that stay. -/
theorem Pr.box (h : Pr X base w d b q s t) (o : Obj) : Pr (fun k => X k ∨ k = w.heap.size) base (w.alloc o) d b q s t := by
  obtain ⟨v, h1, h2, h3, h4, h5⟩ := h
  have hB : Below w.heap.size w (w.alloc o) := (Below.refl _ w).alloc (Nat.le_refl _) o
  have hlt := h1.lt
  refine ⟨v, h1.pure hB, h2.pure hB, h3, h4, fun k hk => ?_⟩
  rcases hk with hk | rfl
  · exact ⟨Nat.lt_of_lt_of_le (h5 k hk).1 hB.size, (h5 k hk).2⟩
  · refine ⟨by simp, fun hd => ?_, fun hq => ?_⟩
    · rcases hd with e | e <;> omega
    · exact absurd (h2.lt hq) (Nat.lt_irrefl _)
theorem Pr.less {Y : Nat → Prop} (h : Pr X base w d b q s t) (hY : ∀ k, Y k → X k) : Pr Y base w d b q s t := by
  obtain ⟨v, h1, h2, h3, h4, h5⟩ := h
  exact ⟨v, h1, h2, h3, h4, fun k hk => h5 k (hY k hk)⟩
theorem KX.less {Y : Nat → Prop} (h : KX X base w w') (hY : ∀ k, Y k → X k) : KX Y base w w' := ⟨h.1, fun k hk => h.2 k (hY k hk)⟩
theorem Pr.callP {F : Nat} {args : Array Value} {r : Ending} (h : Pr X base w d b q s t) (hc : Disk w d b s → Calls Try.prog F args w fun e w' => e = r ∧ Disk w' d b s' ∧ Upd (DiskS d b) w w') :
    Calls Try.prog F args w fun e w' => e = r ∧ Pr X base w' d b q s' t ∧ KX X base w w' :=
  (hc (by obtain ⟨v, h1, -⟩ := h; exact h1)).mono fun e w' ⟨h1, h2, h3⟩ => ⟨h1, h.prog h2 h3⟩
theorem Pr.callD {F : Nat} {args : Array Value} {r : Ending} (h : Pr X base w d b q s t) (hc : ∀ v, DD w q v t → Calls Try.prog F args w fun e w' => e = r ∧ DT w w' q v t') :
    Calls Try.prog F args w fun e w' => e = r ∧ Pr X base w' d b q s t' ∧ KX X base w w' := by
  obtain ⟨v, h1, h2, h3, h4, h5⟩ := h
  exact (hc v h2).mono fun e w' ⟨g1, g2⟩ => ⟨g1, Pr.doc h1 h2 h3 h4 h5 g2⟩
theorem Pr.callB {F : Nat} {args : Array Value} {r : Ending} (h : Pr X base w d b q s t) (hc : Disk w d b s → Calls Try.prog F args w fun e w' => e = r ∧ Below w.heap.size w w') :
    Calls Try.prog F args w fun e w' => e = r ∧ Pr X base w' d b q s t ∧ KX X base w w' :=
  (hc (by obtain ⟨v, h1, -⟩ := h; exact h1)).mono fun e w' ⟨h1, h2⟩ => ⟨h1, h.pure h2⟩
theorem Pr.callE {F : Nat} {args : Array Value} {r : Ending} (h : Pr X base w d b q s t) (hc : ∀ v, DD w q v t → Calls Try.prog F args w fun e w' => e = r ∧ Below w.heap.size w w') :
    Calls Try.prog F args w fun e w' => e = r ∧ Pr X base w' d b q s t ∧ KX X base w w' := by
  have h' := h
  obtain ⟨v, h1, h2, -⟩ := h
  exact (hc v h2).mono fun e w' ⟨g1, g2⟩ => ⟨g1, h'.pure g2⟩
theorem Slc.low {α : Type} {enc : α → List Value} {m : Nat} {v : Value} {L : List α} (h : Slc enc m w v L) (hb : Below base w w') (hl : L.length ≠ 0 → ∀ k, v.ownBlock = some k → k < base) : Slc enc m w' v L := by
  by_cases h0 : L.length = 0
  · rcases h with h | ⟨g, off, cap, hv, h1, h2, h3⟩
    · exact .inl h
    · exact .inr ⟨g, off, cap, hv, h1, h2, fun i hi => by omega⟩
  · exact h.keep (fun p _ e => hb.cell (hl h0 _ e.symm))
theorem Pr.lowP (h : Pr X base w d b q s t) {v : Value} (hl : ∀ k, v.ownBlock = some k → k < base) : ∀ i, v.ownBlock = some i → ¬ DiskS d b i := fun i hi hd => by
  obtain ⟨u, h1, h2, h3, h4, h5⟩ := h
  have := hl i hi
  rcases hd with rfl | rfl <;> omega
end

theorem Pr.callW {X : Nat → Prop} {base : Nat} {w : World} {d b q : Nat} {s t t' : DS} {F : Nat} {args : Array Value} {r : Ending} (h : Pr X base w d b q s t) {kv : Value} {n : Nat} (hl : n ≠ 0 → ∀ k, kv.ownBlock = some k → k < base) (hc : ∀ v, DD w q v t → (n ≠ 0 → ∀ i, kv.ownBlock = some i → ¬ DQ q v i) → Calls Try.prog F args w fun e w' => e = r ∧ DT w w' q v t') :
    Calls Try.prog F args w fun e w' => e = r ∧ Pr X base w' d b q s t' ∧ KX X base w w' := by
  obtain ⟨v, h1, h2, h3, h4, h5⟩ := h
  refine (hc v h2 (fun h0 i hi hq => ?_)).mono fun e w' ⟨g1, g2⟩ => ⟨g1, Pr.doc h1 h2 h3 h4 h5 g2⟩
  have := hl h0 i hi
  rcases hq with rfl | hq
  · omega
  · have := h3.2.2.2 i hq; omega

set_option maxRecDepth 100000 in
set_option maxHeartbeats 6400000 in
theorem does_0 (hLi : ListOk) {X : Nat → Prop} {base : Nat} (w : World) (d b q : Nat) (s t : DS) (wh n : Int) (nm to : ByteArray) (ka : Option Addr) (kc : Nat) (K : List Int) (h : Pr X base w d b q s t) (hs : DOk s) (ht : DOk t) (ls : s.L.length < 900000) (lt : t.L.length < 900000)
    (hw : wh % 9 = 0) (wh0 : 0 ≤ wh) (wh1 : wh ≤ 255) (hn1 : nm.size ≤ 100) (hn2 : to.size ≤ 2000) (hn : -9223372036854775808 ≤ n ∧ n ≤ 9223372036854775807) (hK : Slc (intEnc .i64) 1 w (.slice ka K.length kc) K) (hKb : K.length ≠ 0 → ∀ k, (Value.slice ka K.length kc).ownBlock = some k → k < base) :
    Calls Try.prog 12 #[.pointer (some ⟨d, 0, none⟩), .pointer (some ⟨q, 0, none⟩), .agg #[.int .u8 wh, .string nm, .string to, .int .i64 n, .slice ka K.length kc]] w fun e w' => ∃ r, e = .returned (.bool r) ∧ (s = t → r = true) ∧ Pr X base w' d b q ((apD s nm to).1) ((apD t nm to).1) ∧ KX X base w w' := by
  have hbase := h.size
  obtain ⟨W, hW⟩ : ∃ W, W = w.alloc (.cells #[.int .u8 wh, .string nm, .string to, .int .i64 n, .slice ka K.length kc] 30) := ⟨_, rfl⟩
  have P0 : Pr (fun k => X k ∨ k = w.heap.size) base W d b q s t := by rw [hW]; exact h.box _
  have A0 : Blk W w.heap.size [.int .u8 wh, .string nm, .string to, .int .i64 n, .slice ka K.length kc] := by rw [hW]; exact Blk.new w [.int .u8 wh, .string nm, .string to, .int .i64 n, .slice ka K.length kc] 30
  have B0 : Below w.heap.size w W := by rw [hW]; exact (Below.refl _ w).alloc (Nat.le_refl _) _
  have Z0 : KX X base w W := ⟨B0.mono hbase, fun k hk => B0.block k (by obtain ⟨v, -, -, -, -, h5⟩ := h; exact (h5 k hk).1)⟩
  have K0 : Slc (intEnc .i64) 1 W (.slice ka K.length kc) K := hK.pure B0
  have hx1 : okS nm := by unfold okS maxLen; omega
  have hx2 : okS to := by unfold okS maxLen; omega
  clear B0 hK h hbase
  have a0 := A0.at 0 rfl; have a1 := A0.at 1 rfl; have a2 := A0.at 2 rfl; have a3 := A0.at 3 rfl; have a4 := A0.at 4 rfl
  skip
  go_enter Try.func12, Try.ntmps12
  go_wp2
  rw [← hW]
  clear hW
  have cP := P0.drew.callP (fun hD => append_any W.drew d b s nm to hD hs (by omega) hx1 (by omega))
  have hb := A0.drew
  refine wp_region_held_drew (S := fun v => Blk v w.heap.size [.int .u8 wh, .string nm, .string to, .int .i64 n, .slice ka K.length kc]) (by kernel_rfl) hb (fun hHeld => ?_)
  refine takeH 0 19 (v := ?_) rfl rfl (by kernel_rfl) (by kernel_rfl) (by kernel_rfl) (fun _ _ _ h => h) (Or.inl ⟨by kernel_rfl, ?_⟩) hHeld ?_
  rotate_left 1
  · (intro v hSw; (try dsimp only at hSw); clear hSw; go_simp; (try with_reducible rfl))
  try simp only [Act.put, List.setIfInBounds_toArray, List.set_cons_zero, List.set_cons_succ]
  refine takeH 1 20 (v := ?_) rfl rfl (by kernel_rfl) (by kernel_rfl) (by kernel_rfl) (fun _ _ _ h => h) (Or.inl ⟨by kernel_rfl, ?_⟩) hHeld ?_
  rotate_left 1
  · (intro v hSw; (try dsimp only at hSw); clear hSw; go_simp; (try with_reducible rfl))
  try simp only [Act.put, List.setIfInBounds_toArray, List.set_cons_zero, List.set_cons_succ]
  refine takeH 2 21 (v := ?_) rfl rfl (by kernel_rfl) (by kernel_rfl) (by kernel_rfl) (fun _ _ _ h => h) (Or.inl ⟨by kernel_rfl, ?_⟩) hHeld ?_
  rotate_left 1
  · (intro v hSw; (try dsimp only at hSw); have q0 := hSw.at 1 rfl; clear hSw; go_simp; (try with_reducible rfl))
  try simp only [Act.put, List.setIfInBounds_toArray, List.set_cons_zero, List.set_cons_succ]
  refine takeH 3 22 (v := ?_) rfl rfl (by kernel_rfl) (by kernel_rfl) (by kernel_rfl) (fun _ _ _ h => h) (Or.inl ⟨by kernel_rfl, ?_⟩) hHeld ?_
  rotate_left 1
  · (intro v hSw; (try dsimp only at hSw); clear hSw; go_simp; (try with_reducible rfl))
  try simp only [Act.put, List.setIfInBounds_toArray, List.set_cons_zero, List.set_cons_succ]
  refine takeH 4 23 (v := ?_) rfl rfl (by kernel_rfl) (by kernel_rfl) (by kernel_rfl) (fun _ _ _ h => h) (Or.inl ⟨by kernel_rfl, ?_⟩) hHeld ?_
  rotate_left 1
  · (intro v hSw; (try dsimp only at hSw); have q0 := hSw.at 2 rfl; clear hSw; go_simp; (try with_reducible rfl))
  try simp only [Act.put, List.setIfInBounds_toArray, List.set_cons_zero, List.set_cons_succ]
  refine takeH 6 25 (v := ?_) rfl rfl (by kernel_rfl) (by kernel_rfl) (by kernel_rfl) (fun _ _ _ h => h) (Or.inl ⟨by kernel_rfl, ?_⟩) hHeld ?_
  rotate_left 1
  · (intro v hSw; (try dsimp only at hSw); clear hSw; go_simp; (try with_reducible rfl))
  try simp only [Act.put, List.setIfInBounds_toArray, List.set_cons_zero, List.set_cons_succ]
  refine takeH 7 26 (v := ?_) rfl rfl (by kernel_rfl) (by kernel_rfl) (by kernel_rfl) (fun _ _ _ h => h) (Or.inl ⟨by kernel_rfl, ?_⟩) hHeld ?_
  rotate_left 1
  · (intro v hSw; (try dsimp only at hSw); clear hSw; go_simp; (try with_reducible rfl))
  try simp only [Act.put, List.setIfInBounds_toArray, List.set_cons_zero, List.set_cons_succ]
  refine takeH 8 27 (v := ?_) rfl rfl (by kernel_rfl) (by kernel_rfl) (by kernel_rfl) (fun _ _ _ h => h) (Or.inl ⟨by kernel_rfl, ?_⟩) hHeld ?_
  rotate_left 1
  · (intro v hSw; (try dsimp only at hSw); have q0 := hSw.at 1 rfl; clear hSw; go_simp; (try with_reducible rfl))
  try simp only [Act.put, List.setIfInBounds_toArray, List.set_cons_zero, List.set_cons_succ]
  refine takeH 9 28 (v := ?_) rfl rfl (by kernel_rfl) (by kernel_rfl) (by kernel_rfl) (fun _ _ _ h => h) (Or.inl ⟨by kernel_rfl, ?_⟩) hHeld ?_
  rotate_left 1
  · (intro v hSw; (try dsimp only at hSw); clear hSw; go_simp; (try with_reducible rfl))
  try simp only [Act.put, List.setIfInBounds_toArray, List.set_cons_zero, List.set_cons_succ]
  refine takeH 10 29 (v := ?_) rfl rfl (by kernel_rfl) (by kernel_rfl) (by kernel_rfl) (fun _ _ _ h => h) (Or.inl ⟨by kernel_rfl, ?_⟩) hHeld ?_
  rotate_left 1
  · (intro v hSw; (try dsimp only at hSw); have q0 := hSw.at 2 rfl; clear hSw; go_simp; (try with_reducible rfl))
  try simp only [Act.put, List.setIfInBounds_toArray, List.set_cons_zero, List.set_cons_succ]
  refine wpAnyH_ready (rs := [5]) (by kernel_rfl) (by simp) ?_
  refine AllReadyH.cons rfl (fun Kq hKq => ?_) AllReadyH.nil
  go_simp
  (go_at_call 24; (with_reducible refine cP.mono ?_); clear cP; rintro e w1 ⟨rfl, P1, K1⟩)
  have hb : Blk w1 w.heap.size [.int .u8 wh, .string nm, .string to, .int .i64 n, .slice ka K.length kc] := K1.blk (.inr rfl) hb
  have cD := P1.callD (fun v hD => dappend_any w1 q v t nm to hD ht (by omega) (by omega) (by omega))
  refine hKq.out _ _ hb (fun hHeld => ?_)
  clear hKq Kq
  try simp only [Act.put, List.setIfInBounds_toArray, List.set_cons_zero, List.set_cons_succ]
  refine wpAnyH_ready (rs := [11]) (by kernel_rfl) (by simp) ?_
  refine AllReadyH.cons rfl (fun Kq hKq => ?_) AllReadyH.nil
  go_simp
  (go_at_call 29; (with_reducible refine cD.mono ?_); clear cD; rintro e w2 ⟨rfl, P2, K2⟩)
  have hb : Blk w2 w.heap.size [.int .u8 wh, .string nm, .string to, .int .i64 n, .slice ka K.length kc] := K2.blk (.inr rfl) hb
  refine hKq.out _ _ hb (fun hHeld => ?_)
  clear hKq Kq
  try simp only [Act.put, List.setIfInBounds_toArray, List.set_cons_zero, List.set_cons_succ]
  refine takeH 12 31 (v := ?_) rfl rfl (by kernel_rfl) (by kernel_rfl) (by kernel_rfl) (fun _ _ _ h => h) (Or.inl ⟨by kernel_rfl, ?_⟩) hHeld ?_
  rotate_left 1
  · (intro v hSw; (try dsimp only at hSw); clear hSw; go_simp; (try with_reducible rfl))
  try simp only [Act.put, List.setIfInBounds_toArray, List.set_cons_zero, List.set_cons_succ]
  refine wpAnyH_ready (rs := [13]) (by kernel_rfl) (by simp) ?_
  refine AllReadyH.cons rfl (fun Kq hKq => ?_) AllReadyH.nil
  go_simp
  refine hKq.out _ _ hb (fun hHeld => ?_)
  clear hKq Kq
  try simp only [Act.put, List.setIfInBounds_toArray, List.set_cons_zero, List.set_cons_succ]
  refine wpAnyH_done (by kernel_rfl) ?_ _
  clear hHeld
  go_wp2
  go_ret
  exact ⟨_, rfl, fun e => by subst e; simp, P2.less (fun k hk => .inl hk), Z0.trans ((K1.dr.trans K2).less (fun k hk => .inl hk))⟩

set_option maxRecDepth 100000 in
set_option maxHeartbeats 6400000 in
theorem does_1 (hLi : ListOk) {X : Nat → Prop} {base : Nat} (w : World) (d b q : Nat) (s t : DS) (wh n : Int) (nm to : ByteArray) (ka : Option Addr) (kc : Nat) (K : List Int) (h : Pr X base w d b q s t) (hs : DOk s) (ht : DOk t) (ls : s.L.length < 900000) (lt : t.L.length < 900000)
    (hw : wh % 9 = 1) (wh0 : 0 ≤ wh) (wh1 : wh ≤ 255) (hn1 : nm.size ≤ 100) (hn2 : to.size ≤ 2000) (hn : -9223372036854775808 ≤ n ∧ n ≤ 9223372036854775807) (hK : Slc (intEnc .i64) 1 w (.slice ka K.length kc) K) (hKb : K.length ≠ 0 → ∀ k, (Value.slice ka K.length kc).ownBlock = some k → k < base) :
    Calls Try.prog 12 #[.pointer (some ⟨d, 0, none⟩), .pointer (some ⟨q, 0, none⟩), .agg #[.int .u8 wh, .string nm, .string to, .int .i64 n, .slice ka K.length kc]] w fun e w' => ∃ r, e = .returned (.bool r) ∧ (s = t → r = true) ∧ Pr X base w' d b q ((syD s nm).1) ((syD t nm).1) ∧ KX X base w w' := by
  have hbase := h.size
  obtain ⟨W, hW⟩ : ∃ W, W = w.alloc (.cells #[.int .u8 wh, .string nm, .string to, .int .i64 n, .slice ka K.length kc] 30) := ⟨_, rfl⟩
  have P0 : Pr (fun k => X k ∨ k = w.heap.size) base W d b q s t := by rw [hW]; exact h.box _
  have A0 : Blk W w.heap.size [.int .u8 wh, .string nm, .string to, .int .i64 n, .slice ka K.length kc] := by rw [hW]; exact Blk.new w [.int .u8 wh, .string nm, .string to, .int .i64 n, .slice ka K.length kc] 30
  have B0 : Below w.heap.size w W := by rw [hW]; exact (Below.refl _ w).alloc (Nat.le_refl _) _
  have Z0 : KX X base w W := ⟨B0.mono hbase, fun k hk => B0.block k (by obtain ⟨v, -, -, -, -, h5⟩ := h; exact (h5 k hk).1)⟩
  have K0 : Slc (intEnc .i64) 1 W (.slice ka K.length kc) K := hK.pure B0
  have hx1 : okS nm := by unfold okS maxLen; omega
  have hx2 : okS to := by unfold okS maxLen; omega
  clear B0 hK h hbase
  have a0 := A0.at 0 rfl; have a1 := A0.at 1 rfl; have a2 := A0.at 2 rfl; have a3 := A0.at 3 rfl; have a4 := A0.at 4 rfl
  skip
  go_enter Try.func12, Try.ntmps12
  go_wp2
  rw [← hW]
  clear hW
  have cP := P0.drew.callP (fun hD => sync_any W.drew d b s nm hD hs (by omega) hx1)
  have hb := A0.drew
  refine wp_region_held_drew (S := fun v => Blk v w.heap.size [.int .u8 wh, .string nm, .string to, .int .i64 n, .slice ka K.length kc]) (by kernel_rfl) hb (fun hHeld => ?_)
  refine takeH 0 34 (v := ?_) rfl rfl (by kernel_rfl) (by kernel_rfl) (by kernel_rfl) (fun _ _ _ h => h) (Or.inl ⟨by kernel_rfl, ?_⟩) hHeld ?_
  rotate_left 1
  · (intro v hSw; (try dsimp only at hSw); clear hSw; go_simp; (try with_reducible rfl))
  try simp only [Act.put, List.setIfInBounds_toArray, List.set_cons_zero, List.set_cons_succ]
  refine takeH 1 35 (v := ?_) rfl rfl (by kernel_rfl) (by kernel_rfl) (by kernel_rfl) (fun _ _ _ h => h) (Or.inl ⟨by kernel_rfl, ?_⟩) hHeld ?_
  rotate_left 1
  · (intro v hSw; (try dsimp only at hSw); clear hSw; go_simp; (try with_reducible rfl))
  try simp only [Act.put, List.setIfInBounds_toArray, List.set_cons_zero, List.set_cons_succ]
  refine takeH 2 36 (v := ?_) rfl rfl (by kernel_rfl) (by kernel_rfl) (by kernel_rfl) (fun _ _ _ h => h) (Or.inl ⟨by kernel_rfl, ?_⟩) hHeld ?_
  rotate_left 1
  · (intro v hSw; (try dsimp only at hSw); have q0 := hSw.at 1 rfl; clear hSw; go_simp; (try with_reducible rfl))
  try simp only [Act.put, List.setIfInBounds_toArray, List.set_cons_zero, List.set_cons_succ]
  refine takeH 4 38 (v := ?_) rfl rfl (by kernel_rfl) (by kernel_rfl) (by kernel_rfl) (fun _ _ _ h => h) (Or.inl ⟨by kernel_rfl, ?_⟩) hHeld ?_
  rotate_left 1
  · (intro v hSw; (try dsimp only at hSw); clear hSw; go_simp; (try with_reducible rfl))
  try simp only [Act.put, List.setIfInBounds_toArray, List.set_cons_zero, List.set_cons_succ]
  refine takeH 5 39 (v := ?_) rfl rfl (by kernel_rfl) (by kernel_rfl) (by kernel_rfl) (fun _ _ _ h => h) (Or.inl ⟨by kernel_rfl, ?_⟩) hHeld ?_
  rotate_left 1
  · (intro v hSw; (try dsimp only at hSw); clear hSw; go_simp; (try with_reducible rfl))
  try simp only [Act.put, List.setIfInBounds_toArray, List.set_cons_zero, List.set_cons_succ]
  refine takeH 6 40 (v := ?_) rfl rfl (by kernel_rfl) (by kernel_rfl) (by kernel_rfl) (fun _ _ _ h => h) (Or.inl ⟨by kernel_rfl, ?_⟩) hHeld ?_
  rotate_left 1
  · (intro v hSw; (try dsimp only at hSw); have q0 := hSw.at 1 rfl; clear hSw; go_simp; (try with_reducible rfl))
  try simp only [Act.put, List.setIfInBounds_toArray, List.set_cons_zero, List.set_cons_succ]
  refine wpAnyH_ready (rs := [3]) (by kernel_rfl) (by simp) ?_
  refine AllReadyH.cons rfl (fun Kq hKq => ?_) AllReadyH.nil
  go_simp
  (go_at_call 25; (with_reducible refine cP.mono ?_); clear cP; rintro e w1 ⟨rfl, P1, K1⟩)
  have hb : Blk w1 w.heap.size [.int .u8 wh, .string nm, .string to, .int .i64 n, .slice ka K.length kc] := K1.blk (.inr rfl) hb
  have cD := P1.callD (fun v hD => dsync_any w1 q v t nm hD ht (by omega))
  refine hKq.out _ _ hb (fun hHeld => ?_)
  clear hKq Kq
  try simp only [Act.put, List.setIfInBounds_toArray, List.set_cons_zero, List.set_cons_succ]
  refine wpAnyH_ready (rs := [7]) (by kernel_rfl) (by simp) ?_
  refine AllReadyH.cons rfl (fun Kq hKq => ?_) AllReadyH.nil
  go_simp
  (go_at_call 30; (with_reducible refine cD.mono ?_); clear cD; rintro e w2 ⟨rfl, P2, K2⟩)
  have hb : Blk w2 w.heap.size [.int .u8 wh, .string nm, .string to, .int .i64 n, .slice ka K.length kc] := K2.blk (.inr rfl) hb
  refine hKq.out _ _ hb (fun hHeld => ?_)
  clear hKq Kq
  try simp only [Act.put, List.setIfInBounds_toArray, List.set_cons_zero, List.set_cons_succ]
  refine takeH 8 42 (v := ?_) rfl rfl (by kernel_rfl) (by kernel_rfl) (by kernel_rfl) (fun _ _ _ h => h) (Or.inl ⟨by kernel_rfl, ?_⟩) hHeld ?_
  rotate_left 1
  · (intro v hSw; (try dsimp only at hSw); clear hSw; go_simp; (try with_reducible rfl))
  try simp only [Act.put, List.setIfInBounds_toArray, List.set_cons_zero, List.set_cons_succ]
  refine wpAnyH_ready (rs := [9]) (by kernel_rfl) (by simp) ?_
  refine AllReadyH.cons rfl (fun Kq hKq => ?_) AllReadyH.nil
  go_simp
  refine hKq.out _ _ hb (fun hHeld => ?_)
  clear hKq Kq
  try simp only [Act.put, List.setIfInBounds_toArray, List.set_cons_zero, List.set_cons_succ]
  refine wpAnyH_done (by kernel_rfl) ?_ _
  clear hHeld
  go_wp2
  go_ret
  exact ⟨_, rfl, fun e => by subst e; simp, P2.less (fun k hk => .inl hk), Z0.trans ((K1.dr.trans K2).less (fun k hk => .inl hk))⟩

set_option maxRecDepth 100000 in
set_option maxHeartbeats 6400000 in
theorem does_2 (hLi : ListOk) {X : Nat → Prop} {base : Nat} (w : World) (d b q : Nat) (s t : DS) (wh n : Int) (nm to : ByteArray) (ka : Option Addr) (kc : Nat) (K : List Int) (h : Pr X base w d b q s t) (hs : DOk s) (ht : DOk t) (ls : s.L.length < 900000) (lt : t.L.length < 900000)
    (hw : wh % 9 = 2) (wh0 : 0 ≤ wh) (wh1 : wh ≤ 255) (hn1 : nm.size ≤ 100) (hn2 : to.size ≤ 2000) (hn : -9223372036854775808 ≤ n ∧ n ≤ 9223372036854775807) (hK : Slc (intEnc .i64) 1 w (.slice ka K.length kc) K) (hKb : K.length ≠ 0 → ∀ k, (Value.slice ka K.length kc).ownBlock = some k → k < base) :
    Calls Try.prog 12 #[.pointer (some ⟨d, 0, none⟩), .pointer (some ⟨q, 0, none⟩), .agg #[.int .u8 wh, .string nm, .string to, .int .i64 n, .slice ka K.length kc]] w fun e w' => ∃ r, e = .returned (.bool r) ∧ (s = t → r = true) ∧ Pr X base w' d b q ((cuD s nm n).1) ((cuD t nm n).1) ∧ KX X base w w' := by
  have hbase := h.size
  obtain ⟨W, hW⟩ : ∃ W, W = w.alloc (.cells #[.int .u8 wh, .string nm, .string to, .int .i64 n, .slice ka K.length kc] 30) := ⟨_, rfl⟩
  have P0 : Pr (fun k => X k ∨ k = w.heap.size) base W d b q s t := by rw [hW]; exact h.box _
  have A0 : Blk W w.heap.size [.int .u8 wh, .string nm, .string to, .int .i64 n, .slice ka K.length kc] := by rw [hW]; exact Blk.new w [.int .u8 wh, .string nm, .string to, .int .i64 n, .slice ka K.length kc] 30
  have B0 : Below w.heap.size w W := by rw [hW]; exact (Below.refl _ w).alloc (Nat.le_refl _) _
  have Z0 : KX X base w W := ⟨B0.mono hbase, fun k hk => B0.block k (by obtain ⟨v, -, -, -, -, h5⟩ := h; exact (h5 k hk).1)⟩
  have K0 : Slc (intEnc .i64) 1 W (.slice ka K.length kc) K := hK.pure B0
  have hx1 : okS nm := by unfold okS maxLen; omega
  have hx2 : okS to := by unfold okS maxLen; omega
  clear B0 hK h hbase
  have a0 := A0.at 0 rfl; have a1 := A0.at 1 rfl; have a2 := A0.at 2 rfl; have a3 := A0.at 3 rfl; have a4 := A0.at 4 rfl
  skip
  go_enter Try.func12, Try.ntmps12
  go_wp2
  rw [← hW]
  clear hW
  have cP := P0.drew.callP (fun hD => cut_any W.drew d b s nm n hD hs (by omega) hx1)
  have hb := A0.drew
  refine wp_region_held_drew (S := fun v => Blk v w.heap.size [.int .u8 wh, .string nm, .string to, .int .i64 n, .slice ka K.length kc]) (by kernel_rfl) hb (fun hHeld => ?_)
  refine takeH 0 45 (v := ?_) rfl rfl (by kernel_rfl) (by kernel_rfl) (by kernel_rfl) (fun _ _ _ h => h) (Or.inl ⟨by kernel_rfl, ?_⟩) hHeld ?_
  rotate_left 1
  · (intro v hSw; (try dsimp only at hSw); clear hSw; go_simp; (try with_reducible rfl))
  try simp only [Act.put, List.setIfInBounds_toArray, List.set_cons_zero, List.set_cons_succ]
  refine takeH 1 46 (v := ?_) rfl rfl (by kernel_rfl) (by kernel_rfl) (by kernel_rfl) (fun _ _ _ h => h) (Or.inl ⟨by kernel_rfl, ?_⟩) hHeld ?_
  rotate_left 1
  · (intro v hSw; (try dsimp only at hSw); clear hSw; go_simp; (try with_reducible rfl))
  try simp only [Act.put, List.setIfInBounds_toArray, List.set_cons_zero, List.set_cons_succ]
  refine takeH 2 47 (v := ?_) rfl rfl (by kernel_rfl) (by kernel_rfl) (by kernel_rfl) (fun _ _ _ h => h) (Or.inl ⟨by kernel_rfl, ?_⟩) hHeld ?_
  rotate_left 1
  · (intro v hSw; (try dsimp only at hSw); have q0 := hSw.at 1 rfl; clear hSw; go_simp; (try with_reducible rfl))
  try simp only [Act.put, List.setIfInBounds_toArray, List.set_cons_zero, List.set_cons_succ]
  refine takeH 3 48 (v := ?_) rfl rfl (by kernel_rfl) (by kernel_rfl) (by kernel_rfl) (fun _ _ _ h => h) (Or.inl ⟨by kernel_rfl, ?_⟩) hHeld ?_
  rotate_left 1
  · (intro v hSw; (try dsimp only at hSw); clear hSw; go_simp; (try with_reducible rfl))
  try simp only [Act.put, List.setIfInBounds_toArray, List.set_cons_zero, List.set_cons_succ]
  refine takeH 4 49 (v := ?_) rfl rfl (by kernel_rfl) (by kernel_rfl) (by kernel_rfl) (fun _ _ _ h => h) (Or.inl ⟨by kernel_rfl, ?_⟩) hHeld ?_
  rotate_left 1
  · (intro v hSw; (try dsimp only at hSw); have q0 := hSw.at 3 rfl; clear hSw; go_simp; (try with_reducible rfl))
  try simp only [Act.put, List.setIfInBounds_toArray, List.set_cons_zero, List.set_cons_succ]
  refine takeH 6 51 (v := ?_) rfl rfl (by kernel_rfl) (by kernel_rfl) (by kernel_rfl) (fun _ _ _ h => h) (Or.inl ⟨by kernel_rfl, ?_⟩) hHeld ?_
  rotate_left 1
  · (intro v hSw; (try dsimp only at hSw); clear hSw; go_simp; (try with_reducible rfl))
  try simp only [Act.put, List.setIfInBounds_toArray, List.set_cons_zero, List.set_cons_succ]
  refine takeH 7 52 (v := ?_) rfl rfl (by kernel_rfl) (by kernel_rfl) (by kernel_rfl) (fun _ _ _ h => h) (Or.inl ⟨by kernel_rfl, ?_⟩) hHeld ?_
  rotate_left 1
  · (intro v hSw; (try dsimp only at hSw); clear hSw; go_simp; (try with_reducible rfl))
  try simp only [Act.put, List.setIfInBounds_toArray, List.set_cons_zero, List.set_cons_succ]
  refine takeH 8 53 (v := ?_) rfl rfl (by kernel_rfl) (by kernel_rfl) (by kernel_rfl) (fun _ _ _ h => h) (Or.inl ⟨by kernel_rfl, ?_⟩) hHeld ?_
  rotate_left 1
  · (intro v hSw; (try dsimp only at hSw); have q0 := hSw.at 1 rfl; clear hSw; go_simp; (try with_reducible rfl))
  try simp only [Act.put, List.setIfInBounds_toArray, List.set_cons_zero, List.set_cons_succ]
  refine takeH 9 54 (v := ?_) rfl rfl (by kernel_rfl) (by kernel_rfl) (by kernel_rfl) (fun _ _ _ h => h) (Or.inl ⟨by kernel_rfl, ?_⟩) hHeld ?_
  rotate_left 1
  · (intro v hSw; (try dsimp only at hSw); clear hSw; go_simp; (try with_reducible rfl))
  try simp only [Act.put, List.setIfInBounds_toArray, List.set_cons_zero, List.set_cons_succ]
  refine takeH 10 55 (v := ?_) rfl rfl (by kernel_rfl) (by kernel_rfl) (by kernel_rfl) (fun _ _ _ h => h) (Or.inl ⟨by kernel_rfl, ?_⟩) hHeld ?_
  rotate_left 1
  · (intro v hSw; (try dsimp only at hSw); have q0 := hSw.at 3 rfl; clear hSw; go_simp; (try with_reducible rfl))
  try simp only [Act.put, List.setIfInBounds_toArray, List.set_cons_zero, List.set_cons_succ]
  refine wpAnyH_ready (rs := [5]) (by kernel_rfl) (by simp) ?_
  refine AllReadyH.cons rfl (fun Kq hKq => ?_) AllReadyH.nil
  go_simp
  (go_at_call 26; (with_reducible refine cP.mono ?_); clear cP; rintro e w1 ⟨rfl, P1, K1⟩)
  have hb : Blk w1 w.heap.size [.int .u8 wh, .string nm, .string to, .int .i64 n, .slice ka K.length kc] := K1.blk (.inr rfl) hb
  have cD := P1.callD (fun v hD => dcut_any w1 q v t nm n hD ht (by omega))
  refine hKq.out _ _ hb (fun hHeld => ?_)
  clear hKq Kq
  try simp only [Act.put, List.setIfInBounds_toArray, List.set_cons_zero, List.set_cons_succ]
  refine wpAnyH_ready (rs := [11]) (by kernel_rfl) (by simp) ?_
  refine AllReadyH.cons rfl (fun Kq hKq => ?_) AllReadyH.nil
  go_simp
  (go_at_call 31; (with_reducible refine cD.mono ?_); clear cD; rintro e w2 ⟨rfl, P2, K2⟩)
  have hb : Blk w2 w.heap.size [.int .u8 wh, .string nm, .string to, .int .i64 n, .slice ka K.length kc] := K2.blk (.inr rfl) hb
  refine hKq.out _ _ hb (fun hHeld => ?_)
  clear hKq Kq
  try simp only [Act.put, List.setIfInBounds_toArray, List.set_cons_zero, List.set_cons_succ]
  refine takeH 12 57 (v := ?_) rfl rfl (by kernel_rfl) (by kernel_rfl) (by kernel_rfl) (fun _ _ _ h => h) (Or.inl ⟨by kernel_rfl, ?_⟩) hHeld ?_
  rotate_left 1
  · (intro v hSw; (try dsimp only at hSw); clear hSw; go_simp; (try with_reducible rfl))
  try simp only [Act.put, List.setIfInBounds_toArray, List.set_cons_zero, List.set_cons_succ]
  refine wpAnyH_ready (rs := [13]) (by kernel_rfl) (by simp) ?_
  refine AllReadyH.cons rfl (fun Kq hKq => ?_) AllReadyH.nil
  go_simp
  refine hKq.out _ _ hb (fun hHeld => ?_)
  clear hKq Kq
  try simp only [Act.put, List.setIfInBounds_toArray, List.set_cons_zero, List.set_cons_succ]
  refine wpAnyH_done (by kernel_rfl) ?_ _
  clear hHeld
  go_wp2
  go_ret
  exact ⟨_, rfl, fun e => by subst e; simp, P2.less (fun k hk => .inl hk), Z0.trans ((K1.dr.trans K2).less (fun k hk => .inl hk))⟩

set_option maxRecDepth 100000 in
set_option maxHeartbeats 6400000 in
theorem does_3 (hLi : ListOk) {X : Nat → Prop} {base : Nat} (w : World) (d b q : Nat) (s t : DS) (wh n : Int) (nm to : ByteArray) (ka : Option Addr) (kc : Nat) (K : List Int) (h : Pr X base w d b q s t) (hs : DOk s) (ht : DOk t) (ls : s.L.length < 900000) (lt : t.L.length < 900000)
    (hw : wh % 9 = 3) (wh0 : 0 ≤ wh) (wh1 : wh ≤ 255) (hn1 : nm.size ≤ 100) (hn2 : to.size ≤ 2000) (hn : -9223372036854775808 ≤ n ∧ n ≤ 9223372036854775807) (hK : Slc (intEnc .i64) 1 w (.slice ka K.length kc) K) (hKb : K.length ≠ 0 → ∀ k, (Value.slice ka K.length kc).ownBlock = some k → k < base) :
    Calls Try.prog 12 #[.pointer (some ⟨d, 0, none⟩), .pointer (some ⟨q, 0, none⟩), .agg #[.int .u8 wh, .string nm, .string to, .int .i64 n, .slice ka K.length kc]] w fun e w' => ∃ r, e = .returned (.bool r) ∧ (s = t → r = true) ∧ Pr X base w' d b q ((reD s nm to).1) ((reD t nm to).1) ∧ KX X base w w' := by
  have hbase := h.size
  obtain ⟨W, hW⟩ : ∃ W, W = w.alloc (.cells #[.int .u8 wh, .string nm, .string to, .int .i64 n, .slice ka K.length kc] 30) := ⟨_, rfl⟩
  have P0 : Pr (fun k => X k ∨ k = w.heap.size) base W d b q s t := by rw [hW]; exact h.box _
  have A0 : Blk W w.heap.size [.int .u8 wh, .string nm, .string to, .int .i64 n, .slice ka K.length kc] := by rw [hW]; exact Blk.new w [.int .u8 wh, .string nm, .string to, .int .i64 n, .slice ka K.length kc] 30
  have B0 : Below w.heap.size w W := by rw [hW]; exact (Below.refl _ w).alloc (Nat.le_refl _) _
  have Z0 : KX X base w W := ⟨B0.mono hbase, fun k hk => B0.block k (by obtain ⟨v, -, -, -, -, h5⟩ := h; exact (h5 k hk).1)⟩
  have K0 : Slc (intEnc .i64) 1 W (.slice ka K.length kc) K := hK.pure B0
  have hx1 : okS nm := by unfold okS maxLen; omega
  have hx2 : okS to := by unfold okS maxLen; omega
  clear B0 hK h hbase
  have a0 := A0.at 0 rfl; have a1 := A0.at 1 rfl; have a2 := A0.at 2 rfl; have a3 := A0.at 3 rfl; have a4 := A0.at 4 rfl
  skip
  go_enter Try.func12, Try.ntmps12
  go_wp2
  rw [← hW]
  clear hW
  have cP := P0.drew.callP (fun hD => rename_any W.drew d b s nm to hD hs (by omega) hx1 hx2)
  have hb := A0.drew
  refine wp_region_held_drew (S := fun v => Blk v w.heap.size [.int .u8 wh, .string nm, .string to, .int .i64 n, .slice ka K.length kc]) (by kernel_rfl) hb (fun hHeld => ?_)
  refine takeH 0 60 (v := ?_) rfl rfl (by kernel_rfl) (by kernel_rfl) (by kernel_rfl) (fun _ _ _ h => h) (Or.inl ⟨by kernel_rfl, ?_⟩) hHeld ?_
  rotate_left 1
  · (intro v hSw; (try dsimp only at hSw); clear hSw; go_simp; (try with_reducible rfl))
  try simp only [Act.put, List.setIfInBounds_toArray, List.set_cons_zero, List.set_cons_succ]
  refine takeH 1 61 (v := ?_) rfl rfl (by kernel_rfl) (by kernel_rfl) (by kernel_rfl) (fun _ _ _ h => h) (Or.inl ⟨by kernel_rfl, ?_⟩) hHeld ?_
  rotate_left 1
  · (intro v hSw; (try dsimp only at hSw); clear hSw; go_simp; (try with_reducible rfl))
  try simp only [Act.put, List.setIfInBounds_toArray, List.set_cons_zero, List.set_cons_succ]
  refine takeH 2 62 (v := ?_) rfl rfl (by kernel_rfl) (by kernel_rfl) (by kernel_rfl) (fun _ _ _ h => h) (Or.inl ⟨by kernel_rfl, ?_⟩) hHeld ?_
  rotate_left 1
  · (intro v hSw; (try dsimp only at hSw); have q0 := hSw.at 1 rfl; clear hSw; go_simp; (try with_reducible rfl))
  try simp only [Act.put, List.setIfInBounds_toArray, List.set_cons_zero, List.set_cons_succ]
  refine takeH 3 63 (v := ?_) rfl rfl (by kernel_rfl) (by kernel_rfl) (by kernel_rfl) (fun _ _ _ h => h) (Or.inl ⟨by kernel_rfl, ?_⟩) hHeld ?_
  rotate_left 1
  · (intro v hSw; (try dsimp only at hSw); clear hSw; go_simp; (try with_reducible rfl))
  try simp only [Act.put, List.setIfInBounds_toArray, List.set_cons_zero, List.set_cons_succ]
  refine takeH 4 64 (v := ?_) rfl rfl (by kernel_rfl) (by kernel_rfl) (by kernel_rfl) (fun _ _ _ h => h) (Or.inl ⟨by kernel_rfl, ?_⟩) hHeld ?_
  rotate_left 1
  · (intro v hSw; (try dsimp only at hSw); have q0 := hSw.at 2 rfl; clear hSw; go_simp; (try with_reducible rfl))
  try simp only [Act.put, List.setIfInBounds_toArray, List.set_cons_zero, List.set_cons_succ]
  refine takeH 6 66 (v := ?_) rfl rfl (by kernel_rfl) (by kernel_rfl) (by kernel_rfl) (fun _ _ _ h => h) (Or.inl ⟨by kernel_rfl, ?_⟩) hHeld ?_
  rotate_left 1
  · (intro v hSw; (try dsimp only at hSw); clear hSw; go_simp; (try with_reducible rfl))
  try simp only [Act.put, List.setIfInBounds_toArray, List.set_cons_zero, List.set_cons_succ]
  refine takeH 7 67 (v := ?_) rfl rfl (by kernel_rfl) (by kernel_rfl) (by kernel_rfl) (fun _ _ _ h => h) (Or.inl ⟨by kernel_rfl, ?_⟩) hHeld ?_
  rotate_left 1
  · (intro v hSw; (try dsimp only at hSw); clear hSw; go_simp; (try with_reducible rfl))
  try simp only [Act.put, List.setIfInBounds_toArray, List.set_cons_zero, List.set_cons_succ]
  refine takeH 8 68 (v := ?_) rfl rfl (by kernel_rfl) (by kernel_rfl) (by kernel_rfl) (fun _ _ _ h => h) (Or.inl ⟨by kernel_rfl, ?_⟩) hHeld ?_
  rotate_left 1
  · (intro v hSw; (try dsimp only at hSw); have q0 := hSw.at 1 rfl; clear hSw; go_simp; (try with_reducible rfl))
  try simp only [Act.put, List.setIfInBounds_toArray, List.set_cons_zero, List.set_cons_succ]
  refine takeH 9 69 (v := ?_) rfl rfl (by kernel_rfl) (by kernel_rfl) (by kernel_rfl) (fun _ _ _ h => h) (Or.inl ⟨by kernel_rfl, ?_⟩) hHeld ?_
  rotate_left 1
  · (intro v hSw; (try dsimp only at hSw); clear hSw; go_simp; (try with_reducible rfl))
  try simp only [Act.put, List.setIfInBounds_toArray, List.set_cons_zero, List.set_cons_succ]
  refine takeH 10 70 (v := ?_) rfl rfl (by kernel_rfl) (by kernel_rfl) (by kernel_rfl) (fun _ _ _ h => h) (Or.inl ⟨by kernel_rfl, ?_⟩) hHeld ?_
  rotate_left 1
  · (intro v hSw; (try dsimp only at hSw); have q0 := hSw.at 2 rfl; clear hSw; go_simp; (try with_reducible rfl))
  try simp only [Act.put, List.setIfInBounds_toArray, List.set_cons_zero, List.set_cons_succ]
  refine wpAnyH_ready (rs := [5]) (by kernel_rfl) (by simp) ?_
  refine AllReadyH.cons rfl (fun Kq hKq => ?_) AllReadyH.nil
  go_simp
  (go_at_call 27; (with_reducible refine cP.mono ?_); clear cP; rintro e w1 ⟨rfl, P1, K1⟩)
  have hb : Blk w1 w.heap.size [.int .u8 wh, .string nm, .string to, .int .i64 n, .slice ka K.length kc] := K1.blk (.inr rfl) hb
  have cD := P1.callD (fun v hD => drename_any w1 q v t nm to hD ht (by omega) (by omega) (by omega))
  refine hKq.out _ _ hb (fun hHeld => ?_)
  clear hKq Kq
  try simp only [Act.put, List.setIfInBounds_toArray, List.set_cons_zero, List.set_cons_succ]
  refine wpAnyH_ready (rs := [11]) (by kernel_rfl) (by simp) ?_
  refine AllReadyH.cons rfl (fun Kq hKq => ?_) AllReadyH.nil
  go_simp
  (go_at_call 32; (with_reducible refine cD.mono ?_); clear cD; rintro e w2 ⟨rfl, P2, K2⟩)
  have hb : Blk w2 w.heap.size [.int .u8 wh, .string nm, .string to, .int .i64 n, .slice ka K.length kc] := K2.blk (.inr rfl) hb
  refine hKq.out _ _ hb (fun hHeld => ?_)
  clear hKq Kq
  try simp only [Act.put, List.setIfInBounds_toArray, List.set_cons_zero, List.set_cons_succ]
  refine takeH 12 72 (v := ?_) rfl rfl (by kernel_rfl) (by kernel_rfl) (by kernel_rfl) (fun _ _ _ h => h) (Or.inl ⟨by kernel_rfl, ?_⟩) hHeld ?_
  rotate_left 1
  · (intro v hSw; (try dsimp only at hSw); clear hSw; go_simp; (try with_reducible rfl))
  try simp only [Act.put, List.setIfInBounds_toArray, List.set_cons_zero, List.set_cons_succ]
  refine wpAnyH_ready (rs := [13]) (by kernel_rfl) (by simp) ?_
  refine AllReadyH.cons rfl (fun Kq hKq => ?_) AllReadyH.nil
  go_simp
  refine hKq.out _ _ hb (fun hHeld => ?_)
  clear hKq Kq
  try simp only [Act.put, List.setIfInBounds_toArray, List.set_cons_zero, List.set_cons_succ]
  refine wpAnyH_done (by kernel_rfl) ?_ _
  clear hHeld
  go_wp2
  go_ret
  exact ⟨_, rfl, fun e => by subst e; simp, P2.less (fun k hk => .inl hk), Z0.trans ((K1.dr.trans K2).less (fun k hk => .inl hk))⟩

set_option maxRecDepth 100000 in
set_option maxHeartbeats 6400000 in
theorem does_4 (hLi : ListOk) {X : Nat → Prop} {base : Nat} (w : World) (d b q : Nat) (s t : DS) (wh n : Int) (nm to : ByteArray) (ka : Option Addr) (kc : Nat) (K : List Int) (h : Pr X base w d b q s t) (hs : DOk s) (ht : DOk t) (ls : s.L.length < 900000) (lt : t.L.length < 900000)
    (hw : wh % 9 = 4) (wh0 : 0 ≤ wh) (wh1 : wh ≤ 255) (hn1 : nm.size ≤ 100) (hn2 : to.size ≤ 2000) (hn : -9223372036854775808 ≤ n ∧ n ≤ 9223372036854775807) (hK : Slc (intEnc .i64) 1 w (.slice ka K.length kc) K) (hKb : K.length ≠ 0 → ∀ k, (Value.slice ka K.length kc).ownBlock = some k → k < base) :
    Calls Try.prog 12 #[.pointer (some ⟨d, 0, none⟩), .pointer (some ⟨q, 0, none⟩), .agg #[.int .u8 wh, .string nm, .string to, .int .i64 n, .slice ka K.length kc]] w fun e w' => ∃ r, e = .returned (.bool r) ∧ (s = t → r = true) ∧ Pr X base w' d b q ((rmD s nm).1) ((rmD t nm).1) ∧ KX X base w w' := by
  have hbase := h.size
  obtain ⟨W, hW⟩ : ∃ W, W = w.alloc (.cells #[.int .u8 wh, .string nm, .string to, .int .i64 n, .slice ka K.length kc] 30) := ⟨_, rfl⟩
  have P0 : Pr (fun k => X k ∨ k = w.heap.size) base W d b q s t := by rw [hW]; exact h.box _
  have A0 : Blk W w.heap.size [.int .u8 wh, .string nm, .string to, .int .i64 n, .slice ka K.length kc] := by rw [hW]; exact Blk.new w [.int .u8 wh, .string nm, .string to, .int .i64 n, .slice ka K.length kc] 30
  have B0 : Below w.heap.size w W := by rw [hW]; exact (Below.refl _ w).alloc (Nat.le_refl _) _
  have Z0 : KX X base w W := ⟨B0.mono hbase, fun k hk => B0.block k (by obtain ⟨v, -, -, -, -, h5⟩ := h; exact (h5 k hk).1)⟩
  have K0 : Slc (intEnc .i64) 1 W (.slice ka K.length kc) K := hK.pure B0
  have hx1 : okS nm := by unfold okS maxLen; omega
  have hx2 : okS to := by unfold okS maxLen; omega
  clear B0 hK h hbase
  have a0 := A0.at 0 rfl; have a1 := A0.at 1 rfl; have a2 := A0.at 2 rfl; have a3 := A0.at 3 rfl; have a4 := A0.at 4 rfl
  skip
  go_enter Try.func12, Try.ntmps12
  go_wp2
  rw [← hW]
  clear hW
  have cP := P0.drew.callP (fun hD => remove_any W.drew d b s nm hD hs (by omega) hx1)
  have hb := A0.drew
  refine wp_region_held_drew (S := fun v => Blk v w.heap.size [.int .u8 wh, .string nm, .string to, .int .i64 n, .slice ka K.length kc]) (by kernel_rfl) hb (fun hHeld => ?_)
  refine takeH 0 75 (v := ?_) rfl rfl (by kernel_rfl) (by kernel_rfl) (by kernel_rfl) (fun _ _ _ h => h) (Or.inl ⟨by kernel_rfl, ?_⟩) hHeld ?_
  rotate_left 1
  · (intro v hSw; (try dsimp only at hSw); clear hSw; go_simp; (try with_reducible rfl))
  try simp only [Act.put, List.setIfInBounds_toArray, List.set_cons_zero, List.set_cons_succ]
  refine takeH 1 76 (v := ?_) rfl rfl (by kernel_rfl) (by kernel_rfl) (by kernel_rfl) (fun _ _ _ h => h) (Or.inl ⟨by kernel_rfl, ?_⟩) hHeld ?_
  rotate_left 1
  · (intro v hSw; (try dsimp only at hSw); clear hSw; go_simp; (try with_reducible rfl))
  try simp only [Act.put, List.setIfInBounds_toArray, List.set_cons_zero, List.set_cons_succ]
  refine takeH 2 77 (v := ?_) rfl rfl (by kernel_rfl) (by kernel_rfl) (by kernel_rfl) (fun _ _ _ h => h) (Or.inl ⟨by kernel_rfl, ?_⟩) hHeld ?_
  rotate_left 1
  · (intro v hSw; (try dsimp only at hSw); have q0 := hSw.at 1 rfl; clear hSw; go_simp; (try with_reducible rfl))
  try simp only [Act.put, List.setIfInBounds_toArray, List.set_cons_zero, List.set_cons_succ]
  refine takeH 4 79 (v := ?_) rfl rfl (by kernel_rfl) (by kernel_rfl) (by kernel_rfl) (fun _ _ _ h => h) (Or.inl ⟨by kernel_rfl, ?_⟩) hHeld ?_
  rotate_left 1
  · (intro v hSw; (try dsimp only at hSw); clear hSw; go_simp; (try with_reducible rfl))
  try simp only [Act.put, List.setIfInBounds_toArray, List.set_cons_zero, List.set_cons_succ]
  refine takeH 5 80 (v := ?_) rfl rfl (by kernel_rfl) (by kernel_rfl) (by kernel_rfl) (fun _ _ _ h => h) (Or.inl ⟨by kernel_rfl, ?_⟩) hHeld ?_
  rotate_left 1
  · (intro v hSw; (try dsimp only at hSw); clear hSw; go_simp; (try with_reducible rfl))
  try simp only [Act.put, List.setIfInBounds_toArray, List.set_cons_zero, List.set_cons_succ]
  refine takeH 6 81 (v := ?_) rfl rfl (by kernel_rfl) (by kernel_rfl) (by kernel_rfl) (fun _ _ _ h => h) (Or.inl ⟨by kernel_rfl, ?_⟩) hHeld ?_
  rotate_left 1
  · (intro v hSw; (try dsimp only at hSw); have q0 := hSw.at 1 rfl; clear hSw; go_simp; (try with_reducible rfl))
  try simp only [Act.put, List.setIfInBounds_toArray, List.set_cons_zero, List.set_cons_succ]
  refine wpAnyH_ready (rs := [3]) (by kernel_rfl) (by simp) ?_
  refine AllReadyH.cons rfl (fun Kq hKq => ?_) AllReadyH.nil
  go_simp
  (go_at_call 28; (with_reducible refine cP.mono ?_); clear cP; rintro e w1 ⟨rfl, P1, K1⟩)
  have hb : Blk w1 w.heap.size [.int .u8 wh, .string nm, .string to, .int .i64 n, .slice ka K.length kc] := K1.blk (.inr rfl) hb
  have cD := P1.callD (fun v hD => dremove_any w1 q v t nm hD ht (by omega))
  refine hKq.out _ _ hb (fun hHeld => ?_)
  clear hKq Kq
  try simp only [Act.put, List.setIfInBounds_toArray, List.set_cons_zero, List.set_cons_succ]
  refine wpAnyH_ready (rs := [7]) (by kernel_rfl) (by simp) ?_
  refine AllReadyH.cons rfl (fun Kq hKq => ?_) AllReadyH.nil
  go_simp
  (go_at_call 33; (with_reducible refine cD.mono ?_); clear cD; rintro e w2 ⟨rfl, P2, K2⟩)
  have hb : Blk w2 w.heap.size [.int .u8 wh, .string nm, .string to, .int .i64 n, .slice ka K.length kc] := K2.blk (.inr rfl) hb
  refine hKq.out _ _ hb (fun hHeld => ?_)
  clear hKq Kq
  try simp only [Act.put, List.setIfInBounds_toArray, List.set_cons_zero, List.set_cons_succ]
  refine takeH 8 83 (v := ?_) rfl rfl (by kernel_rfl) (by kernel_rfl) (by kernel_rfl) (fun _ _ _ h => h) (Or.inl ⟨by kernel_rfl, ?_⟩) hHeld ?_
  rotate_left 1
  · (intro v hSw; (try dsimp only at hSw); clear hSw; go_simp; (try with_reducible rfl))
  try simp only [Act.put, List.setIfInBounds_toArray, List.set_cons_zero, List.set_cons_succ]
  refine wpAnyH_ready (rs := [9]) (by kernel_rfl) (by simp) ?_
  refine AllReadyH.cons rfl (fun Kq hKq => ?_) AllReadyH.nil
  go_simp
  refine hKq.out _ _ hb (fun hHeld => ?_)
  clear hKq Kq
  try simp only [Act.put, List.setIfInBounds_toArray, List.set_cons_zero, List.set_cons_succ]
  refine wpAnyH_done (by kernel_rfl) ?_ _
  clear hHeld
  go_wp2
  go_ret
  exact ⟨_, rfl, fun e => by subst e; simp, P2.less (fun k hk => .inl hk), Z0.trans ((K1.dr.trans K2).less (fun k hk => .inl hk))⟩

set_option maxRecDepth 100000 in
set_option maxHeartbeats 6400000 in
theorem does_5 (hLi : ListOk) {X : Nat → Prop} {base : Nat} (w : World) (d b q : Nat) (s t : DS) (wh n : Int) (nm to : ByteArray) (ka : Option Addr) (kc : Nat) (K : List Int) (h : Pr X base w d b q s t) (hs : DOk s) (ht : DOk t) (ls : s.L.length < 900000) (lt : t.L.length < 900000)
    (hw : wh % 9 = 5) (wh0 : 0 ≤ wh) (wh1 : wh ≤ 255) (hn1 : nm.size ≤ 100) (hn2 : to.size ≤ 2000) (hn : -9223372036854775808 ≤ n ∧ n ≤ 9223372036854775807) (hK : Slc (intEnc .i64) 1 w (.slice ka K.length kc) K) (hKb : K.length ≠ 0 → ∀ k, (Value.slice ka K.length kc).ownBlock = some k → k < base) :
    Calls Try.prog 12 #[.pointer (some ⟨d, 0, none⟩), .pointer (some ⟨q, 0, none⟩), .agg #[.int .u8 wh, .string nm, .string to, .int .i64 n, .slice ka K.length kc]] w fun e w' => ∃ r, e = .returned (.bool r) ∧ (s = t → r = true) ∧ Pr X base w' d b q (s) (t) ∧ KX X base w w' := by
  have hbase := h.size
  obtain ⟨W, hW⟩ : ∃ W, W = w.alloc (.cells #[.int .u8 wh, .string nm, .string to, .int .i64 n, .slice ka K.length kc] 30) := ⟨_, rfl⟩
  have P0 : Pr (fun k => X k ∨ k = w.heap.size) base W d b q s t := by rw [hW]; exact h.box _
  have A0 : Blk W w.heap.size [.int .u8 wh, .string nm, .string to, .int .i64 n, .slice ka K.length kc] := by rw [hW]; exact Blk.new w [.int .u8 wh, .string nm, .string to, .int .i64 n, .slice ka K.length kc] 30
  have B0 : Below w.heap.size w W := by rw [hW]; exact (Below.refl _ w).alloc (Nat.le_refl _) _
  have Z0 : KX X base w W := ⟨B0.mono hbase, fun k hk => B0.block k (by obtain ⟨v, -, -, -, -, h5⟩ := h; exact (h5 k hk).1)⟩
  have K0 : Slc (intEnc .i64) 1 W (.slice ka K.length kc) K := hK.pure B0
  have hx1 : okS nm := by unfold okS maxLen; omega
  have hx2 : okS to := by unfold okS maxLen; omega
  clear B0 hK h hbase
  have a0 := A0.at 0 rfl; have a1 := A0.at 1 rfl; have a2 := A0.at 2 rfl; have a3 := A0.at 3 rfl; have a4 := A0.at 4 rfl
  have hW' := Lib.hid hW; clear hW
  go_enter Try.func12, Try.ntmps12
  have cR := P0.callB (fun hD => read_any W d b s nm hD hx1)
  have cS := fun w1 (P1 : Pr (fun k => X k ∨ k = w.heap.size) base w1 d b q s t) => P1.callB (fun hD => safe_any w1 d b s nm hD hx1)
  have cD := fun w1 (P1 : Pr (fun k => X k ∨ k = w.heap.size) base w1 d b q s t) => P1.callE (fun v hD => dread_any w1 q v t nm hD ht (by omega))
  have hr : s = t → rdD s nm = rdD t nm := fun e => by rw [e]
  obtain ⟨ra, hra⟩ : ∃ r, rdD s nm = r := ⟨_, rfl⟩
  obtain ⟨rb, hrb⟩ : ∃ r, rdD t nm = r := ⟨_, rfl⟩
  rw [hra] at cR cS hr; rw [hrb] at cD hr
  obtain ⟨ra0, ra1, ra2⟩ := ra
  obtain ⟨rb0, rb1, rb2⟩ := rb
  simp only at cR cS cD
  have cS' := Lib.hid cS; have cD' := Lib.hid cD; clear cS cD hra hrb
  cases hq0 : sameS ra0 rb0
  · have hq1 := sameS_no.1 hq0
    have hne : s ≠ t := fun e => by have h9 := hr e; simp only [Prod.mk.injEq] at h9; exact hq1 h9.1
    have hne' := Lib.hid hne; clear hne hr
    clear hq1; unfold sameS at hq0
    go_wp2_with (first
      | (go_at_call 15; rw [← hW'.out]; (with_reducible refine cR.mono ?_); clear cR; rintro e w1 ⟨rfl, P1, K1⟩; have A1 := K1.blk (.inr rfl) A0; have a1 := A1.at 1 rfl)
      | (go_at_call 21; (with_reducible refine (cS'.out w1 P1).mono ?_); rintro e w2 ⟨rfl, P2, K2⟩; have A2 := K2.blk (.inr rfl) A1; have a1 := A2.at 1 rfl)
      | (go_at_call 34; (with_reducible refine (cD'.out w2 P2).mono ?_); rintro e w3 ⟨rfl, P3, K3⟩))
    go_ret
    exact ⟨_, rfl, fun e => absurd e hne'.out, P3.less (fun k hk => .inl hk), Z0.trans (((K1.trans K2).trans K3).less (fun k hk => .inl hk))⟩
  · obtain rfl := sameS_iff.1 hq0
    clear hq0
    by_cases q1 : ra1 = rb1
    · subst q1
      by_cases q2 : ra2 = rb2
      · subst q2
        clear hr
        go_wp2_with (first
          | (go_at_call 15; rw [← hW'.out]; (with_reducible refine cR.mono ?_); clear cR; rintro e w1 ⟨rfl, P1, K1⟩; have A1 := K1.blk (.inr rfl) A0; have a1 := A1.at 1 rfl)
          | (go_at_call 21; (with_reducible refine (cS'.out w1 P1).mono ?_); rintro e w2 ⟨rfl, P2, K2⟩; have A2 := K2.blk (.inr rfl) A1; have a1 := A2.at 1 rfl)
          | (go_at_call 34; (with_reducible refine (cD'.out w2 P2).mono ?_); rintro e w3 ⟨rfl, P3, K3⟩))
        go_ret
        exact ⟨_, rfl, fun _ => by first | rfl | simp, P3.less (fun k hk => .inl hk), Z0.trans (((K1.trans K2).trans K3).less (fun k hk => .inl hk))⟩
      · skip
        have hne : s ≠ t := fun e => by have h9 := hr e; simp only [Prod.mk.injEq] at h9; exact q2 h9.2.2
        have hne' := Lib.hid hne; clear hne hr
        go_wp2_with (first
          | (go_at_call 15; rw [← hW'.out]; (with_reducible refine cR.mono ?_); clear cR; rintro e w1 ⟨rfl, P1, K1⟩; have A1 := K1.blk (.inr rfl) A0; have a1 := A1.at 1 rfl)
          | (go_at_call 21; (with_reducible refine (cS'.out w1 P1).mono ?_); rintro e w2 ⟨rfl, P2, K2⟩; have A2 := K2.blk (.inr rfl) A1; have a1 := A2.at 1 rfl)
          | (go_at_call 34; (with_reducible refine (cD'.out w2 P2).mono ?_); rintro e w3 ⟨rfl, P3, K3⟩))
        go_ret
        exact ⟨_, rfl, fun e => absurd e hne'.out, P3.less (fun k hk => .inl hk), Z0.trans (((K1.trans K2).trans K3).less (fun k hk => .inl hk))⟩
    · skip
      have hne : s ≠ t := fun e => by have h9 := hr e; simp only [Prod.mk.injEq] at h9; exact q1 h9.2.1
      have hne' := Lib.hid hne; clear hne hr
      go_wp2_with (first
        | (go_at_call 15; rw [← hW'.out]; (with_reducible refine cR.mono ?_); clear cR; rintro e w1 ⟨rfl, P1, K1⟩; have A1 := K1.blk (.inr rfl) A0; have a1 := A1.at 1 rfl)
        | (go_at_call 21; (with_reducible refine (cS'.out w1 P1).mono ?_); rintro e w2 ⟨rfl, P2, K2⟩; have A2 := K2.blk (.inr rfl) A1; have a1 := A2.at 1 rfl)
        | (go_at_call 34; (with_reducible refine (cD'.out w2 P2).mono ?_); rintro e w3 ⟨rfl, P3, K3⟩))
      go_ret
      exact ⟨_, rfl, fun e => absurd e hne'.out, P3.less (fun k hk => .inl hk), Z0.trans (((K1.trans K2).trans K3).less (fun k hk => .inl hk))⟩

set_option maxRecDepth 100000 in
set_option maxHeartbeats 6400000 in
theorem does_6 (hLi : ListOk) {X : Nat → Prop} {base : Nat} (w : World) (d b q : Nat) (s t : DS) (wh n : Int) (nm to : ByteArray) (ka : Option Addr) (kc : Nat) (K : List Int) (h : Pr X base w d b q s t) (hs : DOk s) (ht : DOk t) (ls : s.L.length < 900000) (lt : t.L.length < 900000)
    (hw : wh % 9 = 6) (wh0 : 0 ≤ wh) (wh1 : wh ≤ 255) (hn1 : nm.size ≤ 100) (hn2 : to.size ≤ 2000) (hn : -9223372036854775808 ≤ n ∧ n ≤ 9223372036854775807) (hK : Slc (intEnc .i64) 1 w (.slice ka K.length kc) K) (hKb : K.length ≠ 0 → ∀ k, (Value.slice ka K.length kc).ownBlock = some k → k < base) :
    Calls Try.prog 12 #[.pointer (some ⟨d, 0, none⟩), .pointer (some ⟨q, 0, none⟩), .agg #[.int .u8 wh, .string nm, .string to, .int .i64 n, .slice ka K.length kc]] w fun e w' => ∃ r, e = .returned (.bool r) ∧ (s = t → r = true) ∧ Pr X base w' d b q (fuD s n) (fuD t n) ∧ KX X base w w' := by
  have hbase := h.size
  obtain ⟨W, hW⟩ : ∃ W, W = w.alloc (.cells #[.int .u8 wh, .string nm, .string to, .int .i64 n, .slice ka K.length kc] 30) := ⟨_, rfl⟩
  have P0 : Pr (fun k => X k ∨ k = w.heap.size) base W d b q s t := by rw [hW]; exact h.box _
  have A0 : Blk W w.heap.size [.int .u8 wh, .string nm, .string to, .int .i64 n, .slice ka K.length kc] := by rw [hW]; exact Blk.new w [.int .u8 wh, .string nm, .string to, .int .i64 n, .slice ka K.length kc] 30
  have B0 : Below w.heap.size w W := by rw [hW]; exact (Below.refl _ w).alloc (Nat.le_refl _) _
  have Z0 : KX X base w W := ⟨B0.mono hbase, fun k hk => B0.block k (by obtain ⟨v, -, -, -, -, h5⟩ := h; exact (h5 k hk).1)⟩
  have K0 : Slc (intEnc .i64) 1 W (.slice ka K.length kc) K := hK.pure B0
  have hx1 : okS nm := by unfold okS maxLen; omega
  have hx2 : okS to := by unfold okS maxLen; omega
  clear B0 hK h hbase
  have a0 := A0.at 0 rfl; have a1 := A0.at 1 rfl; have a2 := A0.at 2 rfl; have a3 := A0.at 3 rfl; have a4 := A0.at 4 rfl
  have hW' := Lib.hid hW; clear hW
  go_enter Try.func12, Try.ntmps12
  have cP := P0.callP (fun hD => fuse_any W d b s n hD)
  go_wp2_with (first
    | (go_at_call 23; rw [← hW'.out]; (with_reducible refine cP.mono ?_); clear cP; rintro e w1 ⟨rfl, P1, K1⟩; have A1 := K1.blk (.inr rfl) A0; have a3 := A1.at 3 rfl; have a4 := A1.at 4 rfl; have cD := P1.callD (fun v hD => dfuse_any w1 q v t n hD))
    | (go_at_call 35; (with_reducible refine cD.mono ?_); clear cD; rintro e w2 ⟨rfl, P2, K2⟩))
  go_ret
  exact ⟨_, rfl, fun _ => rfl, P2.less (fun k hk => .inl hk), Z0.trans ((K1.trans K2).less (fun k hk => .inl hk))⟩

set_option maxRecDepth 100000 in
set_option maxHeartbeats 6400000 in
theorem does_7 (hLi : ListOk) {X : Nat → Prop} {base : Nat} (w : World) (d b q : Nat) (s t : DS) (wh n : Int) (nm to : ByteArray) (ka : Option Addr) (kc : Nat) (K : List Int) (h : Pr X base w d b q s t) (hs : DOk s) (ht : DOk t) (ls : s.L.length < 900000) (lt : t.L.length < 900000)
    (hw : wh % 9 = 7) (wh0 : 0 ≤ wh) (wh1 : wh ≤ 255) (hn1 : nm.size ≤ 100) (hn2 : to.size ≤ 2000) (hn : -9223372036854775808 ≤ n ∧ n ≤ 9223372036854775807) (hK : Slc (intEnc .i64) 1 w (.slice ka K.length kc) K) (hKb : K.length ≠ 0 → ∀ k, (Value.slice ka K.length kc).ownBlock = some k → k < base) :
    Calls Try.prog 12 #[.pointer (some ⟨d, 0, none⟩), .pointer (some ⟨q, 0, none⟩), .agg #[.int .u8 wh, .string nm, .string to, .int .i64 n, .slice ka K.length kc]] w fun e w' => ∃ r, e = .returned (.bool r) ∧ (s = t → r = true) ∧ Pr X base w' d b q (crD s) (crD t) ∧ KX X base w w' := by
  have hbase := h.size
  obtain ⟨W, hW⟩ : ∃ W, W = w.alloc (.cells #[.int .u8 wh, .string nm, .string to, .int .i64 n, .slice ka K.length kc] 30) := ⟨_, rfl⟩
  have P0 : Pr (fun k => X k ∨ k = w.heap.size) base W d b q s t := by rw [hW]; exact h.box _
  have A0 : Blk W w.heap.size [.int .u8 wh, .string nm, .string to, .int .i64 n, .slice ka K.length kc] := by rw [hW]; exact Blk.new w [.int .u8 wh, .string nm, .string to, .int .i64 n, .slice ka K.length kc] 30
  have B0 : Below w.heap.size w W := by rw [hW]; exact (Below.refl _ w).alloc (Nat.le_refl _) _
  have Z0 : KX X base w W := ⟨B0.mono hbase, fun k hk => B0.block k (by obtain ⟨v, -, -, -, -, h5⟩ := h; exact (h5 k hk).1)⟩
  have K0 : Slc (intEnc .i64) 1 W (.slice ka K.length kc) K := hK.pure B0
  have hx1 : okS nm := by unfold okS maxLen; omega
  have hx2 : okS to := by unfold okS maxLen; omega
  clear B0 hK h hbase
  have a0 := A0.at 0 rfl; have a1 := A0.at 1 rfl; have a2 := A0.at 2 rfl; have a3 := A0.at 3 rfl; have a4 := A0.at 4 rfl
  have hW' := Lib.hid hW; clear hW
  go_enter Try.func12, Try.ntmps12
  have cP := P0.callP (fun hD => crash_any W d b s hD)
  go_wp2_with (first
    | (go_at_call 19; rw [← hW'.out]; (with_reducible refine cP.mono ?_); clear cP; rintro e w1 ⟨rfl, P1, K1⟩; have A1 := K1.blk (.inr rfl) A0; have a3 := A1.at 3 rfl; have a4 := A1.at 4 rfl; have cD := P1.callD (fun v hD => dcrash_any w1 q v t hD))
    | (go_at_call 36; (with_reducible refine cD.mono ?_); clear cD; rintro e w2 ⟨rfl, P2, K2⟩))
  go_ret
  exact ⟨_, rfl, fun _ => rfl, P2.less (fun k hk => .inl hk), Z0.trans ((K1.trans K2).less (fun k hk => .inl hk))⟩

set_option maxRecDepth 100000 in
set_option maxHeartbeats 6400000 in
theorem does_8 (hLi : ListOk) {X : Nat → Prop} {base : Nat} (w : World) (d b q : Nat) (s t : DS) (wh n : Int) (nm to : ByteArray) (ka : Option Addr) (kc : Nat) (K : List Int) (h : Pr X base w d b q s t) (hs : DOk s) (ht : DOk t) (ls : s.L.length < 900000) (lt : t.L.length < 900000)
    (hw : wh % 9 = 8) (wh0 : 0 ≤ wh) (wh1 : wh ≤ 255) (hn1 : nm.size ≤ 100) (hn2 : to.size ≤ 2000) (hn : -9223372036854775808 ≤ n ∧ n ≤ 9223372036854775807) (hK : Slc (intEnc .i64) 1 w (.slice ka K.length kc) K) (hKb : K.length ≠ 0 → ∀ k, (Value.slice ka K.length kc).ownBlock = some k → k < base) :
    Calls Try.prog 12 #[.pointer (some ⟨d, 0, none⟩), .pointer (some ⟨q, 0, none⟩), .agg #[.int .u8 wh, .string nm, .string to, .int .i64 n, .slice ka K.length kc]] w fun e w' => ∃ r, e = .returned (.bool r) ∧ (s = t → r = true) ∧ Pr X base w' d b q (waD s K) (waD t K) ∧ KX X base w w' := by
  have hbase := h.size
  obtain ⟨W, hW⟩ : ∃ W, W = w.alloc (.cells #[.int .u8 wh, .string nm, .string to, .int .i64 n, .slice ka K.length kc] 30) := ⟨_, rfl⟩
  have P0 : Pr (fun k => X k ∨ k = w.heap.size) base W d b q s t := by rw [hW]; exact h.box _
  have A0 : Blk W w.heap.size [.int .u8 wh, .string nm, .string to, .int .i64 n, .slice ka K.length kc] := by rw [hW]; exact Blk.new w [.int .u8 wh, .string nm, .string to, .int .i64 n, .slice ka K.length kc] 30
  have B0 : Below w.heap.size w W := by rw [hW]; exact (Below.refl _ w).alloc (Nat.le_refl _) _
  have Z0 : KX X base w W := ⟨B0.mono hbase, fun k hk => B0.block k (by obtain ⟨v, -, -, -, -, h5⟩ := h; exact (h5 k hk).1)⟩
  have K0 : Slc (intEnc .i64) 1 W (.slice ka K.length kc) K := hK.pure B0
  have hx1 : okS nm := by unfold okS maxLen; omega
  have hx2 : okS to := by unfold okS maxLen; omega
  clear B0 hK h hbase
  have a0 := A0.at 0 rfl; have a1 := A0.at 1 rfl; have a2 := A0.at 2 rfl; have a3 := A0.at 3 rfl; have a4 := A0.at 4 rfl
  have hW' := Lib.hid hW; clear hW
  go_enter Try.func12, Try.ntmps12
  have cP := P0.callP (fun hD => wake_any hLi W d b s _ K hD hs (by omega) K0 (fun h0 => P0.lowP (hKb h0)))
  go_wp2_with (first
    | (go_at_call 20; rw [← hW'.out]; (with_reducible refine cP.mono ?_); clear cP; rintro e w1 ⟨rfl, P1, K1⟩; have A1 := K1.blk (.inr rfl) A0; have a3 := A1.at 3 rfl; have a4 := A1.at 4 rfl; have K1s := K0.low K1.1 hKb; have cD := Pr.callW P1 hKb (fun v hD hv => dwake_any w1 q v t _ K hD ht (by omega) K1s hv))
    | (go_at_call 37; (with_reducible refine cD.mono ?_); clear cD; rintro e w2 ⟨rfl, P2, K2⟩))
  go_ret
  exact ⟨_, rfl, fun _ => rfl, P2.less (fun k hk => .inl hk), Z0.trans ((K1.trans K2).less (fun k hk => .inl hk))⟩
end Go.Proofs.Ytgpdbifgbabnnaa
