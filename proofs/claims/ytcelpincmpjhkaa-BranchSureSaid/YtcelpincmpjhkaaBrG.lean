/- Package branch: slices.DeleteFunc at the rows of a table; gone. Conditions: the rows rise; at most a million. -/
import Derived.Test.YtcelpincmpjhkaaBrF
namespace Go.Proofs.Ytcelpincmpjhkaa
open Go.RowKit
set_option linter.unusedVariables false

/-- A whole row stored. -/
theorem brow_set {base : Nat} {w : World} {g n cap : Nat} {L : List Brn} (h : Own base 44 7 brEnc w (.slice (some ⟨g, 0, none⟩) n cap) L) (i : Nat) (hi : i < L.length) (x : Brn) :
    Own base 44 7 brEnc (((((((w.setCell ⟨g, i * 7, none⟩ (.int .u32 x.x.1)).setCell ⟨g, i * 7 + 1, none⟩ (.string x.x.2.1)).setCell ⟨g, i * 7 + 2, none⟩ (.string x.x.2.2)).setCell ⟨g, i * 7 + 3, none⟩ (.int .u8 x.st)).setCell ⟨g, i * 7 + 4, none⟩ (.int .u8 x.why)).setCell ⟨g, i * 7 + 5, none⟩ (.int .u32 x.tm)).setCell ⟨g, i * 7 + 6, none⟩ (.int .u32 x.lf)) (.slice (some ⟨g, 0, none⟩) n cap) (L.set i x) := by
  obtain ⟨⟨xf, xg, xb⟩, st, why, tm, lf⟩ := x
  have e : L[i] = ⟨(L[i].x.1, L[i].x.2.1, L[i].x.2.2), L[i].st, L[i].why, L[i].tm, L[i].lf⟩ := rfl
  have h0 := h.set brEnc_len i hi 0 (.int .u32 xf) ⟨(xf, L[i].x.2.1, L[i].x.2.2), L[i].st, L[i].why, L[i].tm, L[i].lf⟩ (by omega) rfl
  have h1 := h0.set brEnc_len i (by simpa using hi) 1 (.string xg) ⟨(xf, xg, L[i].x.2.2), L[i].st, L[i].why, L[i].tm, L[i].lf⟩ (by omega) (by rw [List.getElem_set_self]; rfl)
  rw [List.set_set] at h1
  have h2 := h1.set brEnc_len i (by simpa using hi) 2 (.string xb) ⟨(xf, xg, xb), L[i].st, L[i].why, L[i].tm, L[i].lf⟩ (by omega) (by rw [List.getElem_set_self]; rfl)
  rw [List.set_set] at h2
  have h3 := h2.set brEnc_len i (by simpa using hi) 3 (.int .u8 st) ⟨(xf, xg, xb), st, L[i].why, L[i].tm, L[i].lf⟩ (by omega) (by rw [List.getElem_set_self]; rfl)
  rw [List.set_set] at h3
  have h4 := h3.set brEnc_len i (by simpa using hi) 4 (.int .u8 why) ⟨(xf, xg, xb), st, why, L[i].tm, L[i].lf⟩ (by omega) (by rw [List.getElem_set_self]; rfl)
  rw [List.set_set] at h4
  have h5 := h4.set brEnc_len i (by simpa using hi) 5 (.int .u32 tm) ⟨(xf, xg, xb), st, why, tm, L[i].lf⟩ (by omega) (by rw [List.getElem_set_self]; rfl)
  rw [List.set_set] at h5
  have h6 := h5.set brEnc_len i (by simpa using hi) 6 (.int .u32 lf) ⟨(xf, xg, xb), st, why, tm, lf⟩ (by omega) (by rw [List.getElem_set_self]; rfl)
  rw [List.set_set] at h6
  exact h6
theorem brow_upd (w : World) (g i : Nat) (a b c d e f h : Value) : Upd (· = g) w (((((((w.setCell ⟨g, i * 7, none⟩ a).setCell ⟨g, i * 7 + 1, none⟩ b).setCell ⟨g, i * 7 + 2, none⟩ c).setCell ⟨g, i * 7 + 3, none⟩ d).setCell ⟨g, i * 7 + 4, none⟩ e).setCell ⟨g, i * 7 + 5, none⟩ f).setCell ⟨g, i * 7 + 6, none⟩ h) := by
  refine Upd.trans ?_ (Upd.set (S := (· = g)) rfl _) (fun _ h _ => h)
  refine Upd.trans ?_ (Upd.set (S := (· = g)) rfl _) (fun _ h _ => h)
  refine Upd.trans ?_ (Upd.set (S := (· = g)) rfl _) (fun _ h _ => h)
  refine Upd.trans ?_ (Upd.set (S := (· = g)) rfl _) (fun _ h _ => h)
  refine Upd.trans ?_ (Upd.set (S := (· = g)) rfl _) (fun _ h _ => h)
  refine Upd.trans ?_ (Upd.set (S := (· = g)) rfl _) (fun _ h _ => h)
  exact Upd.set (S := (· = g)) rfl _

/-- The row k left out, the rows up to i + 1 moved. -/
def shB (R : List Brn) (k i : Nat) : List Brn := R.take k ++ ((R.drop (k + 1)).take (i - k) ++ R.drop i)
theorem shB_start (R : List Brn) (k : Nat) : shB R k k = R := by unfold shB; simp
theorem shB_len {R : List Brn} {k i : Nat} (hk : k ≤ i) (hi : i < R.length) : (shB R k i).length = R.length := by unfold shB; simp; omega
theorem shB_get {R : List Brn} {k i : Nat} (hk : k ≤ i) (hi : i + 1 < R.length) : (shB R k i)[i + 1]? = R[i + 1]? := by
  unfold shB
  rw [List.getElem?_append_right (by simp; omega), List.getElem?_append_right (by simp; omega)]
  simp only [List.length_take, List.length_drop, List.getElem?_drop]
  congr 1
  omega
theorem shB_set {R : List Brn} {k i : Nat} (hk : k ≤ i) (hi : i + 1 < R.length) : (shB R k i).set i R[i + 1] = shB R k (i + 1) := by
  unfold shB
  have e1 : (R.drop (k + 1)).take (i + 1 - k) = (R.drop (k + 1)).take (i - k) ++ [R[i + 1]] := by
    rw [show i + 1 - k = (i - k) + 1 by omega, List.take_succ_eq_append_getElem (by simp; omega)]
    congr 2
    rw [List.getElem_drop]
    congr 1
    omega
  rw [List.set_append_right _ _ (by simp; omega), List.set_append_right _ _ (by simp; omega), e1, List.append_assoc]
  congr 2
  simp only [List.length_take, List.length_drop]
  rw [show i - min k R.length - min (i - k) (R.length - (k + 1)) = 0 by omega, List.drop_eq_getElem_cons (by omega : i < R.length), List.set_cons_zero]
  rfl
theorem shB_end {R : List Brn} {k i : Nat} (hk : k < R.length) (hi : i + 1 = R.length) (hki : k ≤ i) : (shB R k i).take i = R.eraseIdx k := by
  unfold shB
  rw [List.eraseIdx_eq_take_drop_succ, List.take_append, List.take_of_length_le (by simp; omega)]
  congr 1
  rw [List.length_take, Nat.min_eq_left (by omega), List.take_append_of_le_length (by simp; omega), List.take_take, Nat.min_self]
  rw [List.take_of_length_le (by simp; omega)]
theorem splice_take (vs xs : List Value) (o : Nat) (h : o + vs.length ≤ xs.length) : (splice xs o vs).take o = xs.take o := by
  rw [splice_eq vs xs o h, List.append_assoc, List.take_append_of_le_length (by simp; omega), List.take_take, Nat.min_self]
theorem without_erase {R : List Brn} {k : Nat} (hr : RisesB R) (hk : k < R.length) : withoutB R R[k].x = R.eraseIdx k := by
  unfold withoutB
  rw [List.eraseIdx_eq_take_drop_succ]
  have e : R = R.take k ++ R[k] :: R.drop (k + 1) := by rw [← List.drop_eq_getElem_cons hk, List.take_append_drop]
  have hne : ∀ b, b ∈ R.take k ∨ b ∈ R.drop (k + 1) → (b.x != R[k].x) = true := by
    intro b hb
    rw [neX_decide]
    refine decide_eq_true (fun he => ?_)
    rcases hb with hb | hb
    · obtain ⟨j, hj, rfl⟩ := List.getElem_of_mem hb
      have hj' : j < k := by simp at hj; omega
      rw [List.getElem_take] at he
      have := sameB_idx hr (by omega) hk he
      omega
    · obtain ⟨j, hj, rfl⟩ := List.getElem_of_mem hb
      rw [List.length_drop] at hj
      rw [List.getElem_drop] at he
      have := sameB_idx hr (by omega) hk he
      omega
  have h1 : (R.take k ++ R[k] :: R.drop (k + 1)).filter (fun b => b.x != R[k].x) = R.take k ++ R.drop (k + 1) := by
    rw [List.filter_append, List.filter_cons, List.filter_eq_self.2 (fun b hb => hne b (.inl hb)), List.filter_eq_self.2 (fun b hb => hne b (.inr hb))]
    rw [show (R[k].x != R[k].x) = false by rw [neX_decide]; simp]
    rfl
  rw [← e] at h1
  exact h1

set_option maxRecDepth 100000 in
set_option maxHeartbeats 4000000 in
theorem delB_yes {base : Nat} (w : World) (g n cap q : Nat) (R : List Brn) (x : Xid) (k : Nat) (hO : Own base 44 7 brEnc w (.slice (some ⟨g, 0, none⟩) n cap) R) (hr : RisesB R) (hL : R.length ≤ 1000000) (hq : Blk w q (xidC x)) (hqg : q ≠ g) (hk : k < R.length) (he : R[k].x = x) :
    Calls Try.prog 117 #[.slice (some ⟨g, 0, none⟩) n cap, goneV q] w fun e w' => e = .returned (.slice (some ⟨g, 0, none⟩) (n - 1) cap) ∧ Own base 44 7 brEnc w' (.slice (some ⟨g, 0, none⟩) (n - 1) cap) (withoutB R x) ∧ Upd (· = g) w w' := by
  have hcap : n ≤ cap ∧ cap ≤ 9223372036854775807 := by
    rcases hO.cases with ⟨h', _⟩ | ⟨g', cap', h', _, _, k1, k2⟩
    · simp at h'
    · simp only [Value.slice.injEq] at h'; unfold maxLen at k2; omega
  have hn0 : n = R.length := by
    obtain ⟨a', c', hv', _⟩ := (hO.slc brEnc_len).len
    simp only [Value.slice.injEq] at hv'
    exact hv'.2.1
  subst hn0
  have hkb : (((k : Nat) : Int) == -1) = false := beq_eq_false_iff_ne.2 (by omega)
  have hne := Lib.hid (fun (j : Nat) (h : j < R.length) (hj : j ≠ k) => show R[j].x ≠ x from fun e => hj (sameB_idx hr h hk (e.trans he.symm)))
  have hw := Lib.hid (show withoutB R x = R.eraseIdx k by rw [← he]; exact without_erase hr hk)
  have hfi := Lib.hid (findx_yes w _ R q x k (hO.slc brEnc_len) hL hq hk he (fun j h => hne.out j (by omega) (by omega)))
  clear hr he
  go_enter Try.func117, Try.ntmps117
  go_wp2_with (go_at_call 131; refine hfi.out.mono ?_; rintro e w1 ⟨rfl, hB1⟩)
  have hO1 := hO.pure hB1
  have hU1 : Upd (· = g) w w1 := Upd.of_below hB1
  go_loopw [5, 6] (fun s5 s6 wr => ∃ i j : Nat, k ≤ i ∧ j ≤ i + 1 ∧ i < j ∧ j ≤ R.length ∧ s5 = .int .i64 i ∧ s6 = .int .i64 j ∧ Own base 44 7 brEnc wr (.slice (some ⟨g, 0, none⟩) R.length cap) (shB R k i) ∧ Upd (· = g) w wr) (fun _ s6 _ => R.length - (intOf s6).toNat)
  case atStart => exact ⟨k, k + 1, by omega, by omega, by omega, by omega, rfl, by go_num, by rw [shB_start]; exact hO1, hU1⟩
  case round =>
    clear hO1 hU1 hB1
    obtain ⟨i, j, hki, hj1, hij, hjn, rfl, rfl, hOr, hU⟩ := hrel
    have hOr' := Lib.hid hOr
    by_cases hlt : j < R.length
    · have hi1 : i + 1 < R.length := by omega
      have hlen := shB_len (R := R) hki (by omega)
      have hjl : j < (shB R k i).length := by omega
      have hil : i < (shB R k i).length := by omega
      have hlen' := Lib.hid hlen; clear hlen
      obtain ⟨c0, c1, c2, c3, c4, c5, c6⟩ := br_cells (hOr.slc brEnc_len) hjl
      have hsj : (shB R k i)[j] = R[j] := by
        have := shB_get (R := R) hki hi1
        have hj : j = i + 1 := by omega
        subst hj
        rw [List.getElem?_eq_getElem hjl, List.getElem?_eq_getElem hlt] at this
        exact Option.some.inj this
      rw [hsj] at c0 c1 c2 c3 c4 c5 c6
      have hset := Lib.hid (show (shB R k i).set i R[j] = shB R k j by
        have hj : j = i + 1 := by omega
        subst hj
        exact shB_set hki hi1)
      have hxj := hne.out j hlt (by omega)
      have hxj' := Lib.hid hxj
      clear hsj hxj
      obtain ⟨b, hb⟩ : ∃ b, b = R[j] := ⟨_, rfl⟩
      rw [← hb] at c0 c1 c2 c3 c4 c5 c6 hset hxj'
      clear hb
      simp only [Nat.zero_add] at c0 c1 c2 c3 c4 c5 c6
      have hqr := hq.upd hU hqg
      have ij0 : (0 : Int) ≤ (j : Int) ∧ (j : Int) < (R.length : Int) := by omega
      have ii0 : (0 : Int) ≤ (i : Int) ∧ (i : Int) < (R.length : Int) := by omega
      have hA := (Below.refl wr.heap.size wr).alloc (Nat.le_refl _) (.cells (brEnc b).toArray 44)
      have bb := Blk.new wr (brEnc b) 44
      have hg := Lib.hid (gone1_any (wr.alloc (.cells (brEnc b).toArray 44)) b q x (hqr.pure hA) false (decide_eq_false hxj'.out))
      have hOa := (hOr.pure hA)
      go_wp2_with (go_at_call 118; refine hg.out.mono ?_; rintro e w2 ⟨rfl, hB2⟩; have hO2 := hOa.pure hB2; have bb2 := bb.pure hB2; have d0 := bb2.at 0 rfl; have d1 := bb2.at 1 rfl; have d2 := bb2.at 2 rfl; have d3 := bb2.at 3 rfl; have d4 := bb2.at 4 rfl; have d5 := bb2.at 5 rfl; have d6 := bb2.at 6 rfl; obtain ⟨e0, e1, e2, e3, e4, e5, e6⟩ := br_cells (hO2.slc brEnc_len) hil; simp only [Nat.zero_add] at e0 e1 e2 e3 e4 e5 e6; have z0 := hO2.frozen (i * 7); have z1 := hO2.frozen (i * 7 + 1); have z2 := hO2.frozen (i * 7 + 2); have z3 := hO2.frozen (i * 7 + 3); have z4 := hO2.frozen (i * 7 + 4); have z5 := hO2.frozen (i * 7 + 5); have z6 := hO2.frozen (i * 7 + 6); have hU2 : Upd (· = g) w w2 := (hU.trans (Upd.of_below hA) (fun _ h _ => h)).trans (Upd.of_below hB2) (fun _ h _ => h); have hO3 := brow_set hO2 i hil b; rw [hset.out] at hO3; have hO3' := Lib.hid hO3; clear hO3)
      go_roundw
      case rel => exact ⟨i + 1, j + 1, by omega, by omega, by omega, by omega, by go_num, by go_num, by rw [show i + 1 = j by omega]; exact hO3'.out, hU2.trans (brow_upd _ _ _ _ _ _ _ _ _ _) (fun _ h _ => h)⟩
      case measure => simp [intOf]; omega
    · obtain rfl : j = R.length := by omega
      have hlen := shB_len (R := R) hki hij
      have hZ : (brEnc (newB noX 0)).length = 7 := rfl
      have hfl : ((shB R k i).flatMap brEnc).length = R.length * 7 := by rw [flat_len brEnc_len, hlen]
      have hOw : wr.ownsRow base 44 7 (.slice (some ⟨g, 0, none⟩) R.length cap) R.length ((shB R k i).flatMap brEnc) := by have := hOr; unfold Own at this; rw [hlen] at this; exact this
      have hcl : ∀ ty, (Builtin.clear_ #[22] ty #[.slice (some ⟨g, i * 7, none⟩) (R.length - i) (cap - i)]).run Try.prog wr = .ok (.tuple #[]) (wr.setCells g (i * 7) [.int .u32 0, .string ⟨#[]⟩, .string ⟨#[]⟩, .int .u8 0, .int .u8 0, .int .u32 0, .int .u32 0]) := fun ty => by
        refine run_clear_one wr _ 44 ty (.agg #[.int .u32 0, .string ⟨#[]⟩, .string ⟨#[]⟩, .int .u8 0, .int .u8 0, .int .u32 0, .int .u32 0]) _ Try.underlying22 (fun w => by kernel_rfl) rfl (by simp [Value.oneCell']) g (i * 7) _ _ (by omega) (fun t ht => ?_) (fun t ht => ?_)
        · simp only [List.length_cons, List.length_nil] at ht
          have hlt2 : i * 7 + t < ((shB R k i).flatMap brEnc).length := by rw [hfl]; omega
          have := World.ownsRow.cells hOw (g := g) rfl _ _ (List.getElem?_eq_getElem hlt2)
          have e : (⟨g, 0, none⟩ : Addr).add (i * 7 + t) = ⟨g, i * 7 + t, none⟩ := by unfold Addr.add; split <;> simp_all
          rw [← e, this]; rfl
        · exact hOr.frozen (i * 7 + t)
      have hcu := cut_own (stored_many [.int .u32 0, .string ⟨#[]⟩, .string ⟨#[]⟩, .int .u8 0, .int .u8 0, .int .u32 0, .int .u32 0] (i * 7) wr _ hOw) (n' := R.length - 1) (by omega)
      have hi0 : R.length - 1 = i := by omega
      have hi0' := Lib.hid hi0
      rw [hi0] at hcu
      rw [splice_take _ _ _ (by rw [hfl]; simp; omega), ← flat_take brEnc_len, shB_end hk (by omega) hki, ← hw.out] at hcu
      have hwl : (withoutB R x).length = i := by rw [hw.out, List.length_eraseIdx_of_lt hk]; omega
      have hfin : Own base 44 7 brEnc (wr.setCells g (i * 7) [.int .u32 0, .string ⟨#[]⟩, .string ⟨#[]⟩, .int .u8 0, .int .u8 0, .int .u32 0, .int .u32 0]) (.slice (some ⟨g, 0, none⟩) i cap) (withoutB R x) := by unfold Own; rw [hwl]; exact hcu
      have hfin' := Lib.hid hfin
      have hic : ¬ cap = i := by omega
      have hic2 : i ≤ cap := by omega
      have hir : i ≤ R.length := by omega
      obtain ⟨hc1, hc2⟩ := hcap
      clear hfin hcu hwl hi0 hOw hfl hZ hlen hOr
      go_wp2
      go_ret
      rw [hi0'.out]
      exact ⟨rfl, hfin'.out, hU.trans (set_cells_upd (S := (· = g)) rfl _ _ _) (fun _ h _ => h)⟩

theorem delB_no (w : World) (v : Value) (q : Nat) (R : List Brn) (x : Xid) (hs : Slc brEnc 7 w v R) (hL : R.length ≤ 1000000) (hq : Blk w q (xidC x)) (hn : ¬ MemB R x) :
    Calls Try.prog 117 #[v, goneV q] w fun e w' => e = .returned v ∧ Below w.heap.size w w' := by
  have hfi := Lib.hid (findx_no w v R q x hs hL hq hn)
  obtain ⟨a, c, rfl, -⟩ := hs.len
  clear hs hq hn
  go_enter Try.func117, Try.ntmps117
  go_wp2_with (go_at_call 131; refine hfi.out.mono ?_; rintro e w1 ⟨rfl, hB1⟩)
  go_ret
  exact ⟨rfl, hB1⟩

/-- Any table: the rows without a name. -/
theorem delB_any {base : Nat} (w : World) (v : Value) (q : Nat) (R : List Brn) (x : Xid) (hO : Own base 44 7 brEnc w v R) (hr : RisesB R) (hL : R.length ≤ 1000000) (hq : Blk w q (xidC x)) (hqv : v.ownBlock ≠ some q) :
    Calls Try.prog 117 #[v, goneV q] w fun e w' => ∃ r, e = .returned r ∧ Own base 44 7 brEnc w' r (withoutB R x) ∧ Upd (fun k => v.ownBlock = some k) w w' ∧ r.ownBlock = v.ownBlock := by
  rcases Classical.em (MemB R x) with hm | hm
  · obtain ⟨k, hk, he⟩ := hm
    obtain ⟨g, cap, rfl, -, -⟩ := hO.shape (fun e => by rw [e] at hk; simp at hk)
    refine (delB_yes w g _ cap q R x k hO hr hL hq (fun e => hqv (by simp [Value.ownBlock, e])) hk he).mono ?_
    rintro e w' ⟨rfl, h1, h2⟩
    exact ⟨_, rfl, h1, h2.mono (fun i hi _ => by simp [Value.ownBlock]; exact hi.symm), rfl⟩
  · refine (delB_no w v q R x (hO.slc brEnc_len) hL hq hm).mono ?_
    rintro e w' ⟨rfl, hB⟩
    exact ⟨v, rfl, by rw [without_all hm]; exact hO.pure hB, Upd.of_below hB, rfl⟩

set_option maxRecDepth 100000 in
set_option maxHeartbeats 1600000 in
/-- gone of a table. -/
theorem tgone {base : Nat} (w : World) (tb : Nat) (rv av : Value) (R : List Brn) (x : Xid) (hT : Blk w tb [rv, av]) (hO : Own base 44 7 brEnc w rv R) (hr : RisesB R) (hL : R.length ≤ 1000000) (hne : rv.ownBlock ≠ some tb) :
    Calls Try.prog 82 #[.pointer (some ⟨tb, 0, none⟩), .agg #[.int .u32 x.1, .string x.2.1, .string x.2.2]] w fun e w' => ∃ r, e = .returned (.tuple #[]) ∧ Blk w' tb [r, av] ∧ Own base 44 7 brEnc w' r (withoutB R x) ∧ r.ownBlock = rv.ownBlock ∧ Upd (fun k => k = tb ∨ rv.ownBlock = some k) w w' := by
  obtain ⟨xf, xg, xb⟩ := x
  simp only
  have hB0 := (Below.refl w.heap.size w).alloc (Nat.le_refl _) (.cells #[.int .u32 xf, .string xg, .string xb] 28)
  have b0 := Blk.new w [.int .u32 xf, .string xg, .string xb] 28
  have t0 := hT.alloc (.cells #[.int .u32 xf, .string xg, .string xb] 28)
  have htl := hT.lt
  have hmf : ∀ (fn : Fn) (first cap : Array Value) (w : World), (Instr.makeFunc fn first cap).run Try.prog w = .ok (.func fn first cap) w := fun _ _ _ _ => rfl
  have hd := Lib.hid (delB_any (w.alloc (.cells #[.int .u32 xf, .string xg, .string xb] 28)) rv w.heap.size R (xf, xg, xb) (hO.alloc _) hr hL b0 (fun e => by have := hO.lt e; omega))
  obtain ⟨a, c, rfl⟩ := own_len hO
  clear hr hT hO
  have c0 := t0.at 0 rfl
  go_enter Try.func82, Try.ntmps82
  go_wp2_with (go_at_call 117; refine hd.out.mono ?_; rintro e w1 ⟨r, rfl, hO1, hU1, hrb⟩; have t1 := t0.upd hU1 hne; obtain ⟨ra, rc, rfl⟩ := own_len hO1; have z1 := t1.frozen 0; have e0 := t1.at 0 rfl; have hrb' := Lib.hid hrb; clear hrb)
  go_end0
  refine ⟨_, rfl, t1.set 0 _, hO1.other _ _ (fun k hk e => hne (by rw [← hrb'.out, hk]; exact congrArg some e)), hrb'.out, ?_⟩
  refine ((Upd.of_below hB0).trans (hU1.mono (fun i hi _ => Or.inr hi)) (fun _ h _ => h)).trans (Upd.set (S := fun k => k = tb ∨ _) (Or.inl rfl) _) (fun _ h _ => h)
end Go.Proofs.Ytcelpincmpjhkaa
