/- The program's Get. Conditions: the bytes are few enough to be in memory; utf8's tables are laid. Written by gen_getE.py. (Texts joined.) -/
import Derived.Test.YtflglpbjapgciaaGreatDoorGetCb
import Derived.Test.YtflglpbjapgciaaGreatDoorKQ
import Derived.Defers
import Derived.Recover

namespace Go.Proofs.YtflglpbjapgciaaGreatDoor
set_option linter.unusedSimpArgs false
set_option linter.unusedVariables false
open Go.RowKit
theorem pmany_any (d : Nat) (hR : ReadOk d) : ManyOk d := by
  intro w qb rb vb xb left dp b k h h1 hx hk hd hd5 hl0 hl1 hL
  rcases hk with rfl | rfl
  · exact pmany168 d hR pread_bad w qb rb vb xb left dp b h h1 hx hd hd5 hl0 hl1 hL
  · exact pmany169 d hR pread_bad w qb rb vb xb left dp b h h1 hx hd hd5 hl0 hl1 hL
theorem pread_all : ∀ d, ReadOk d
  | 0 => pread_any 0 (fun d' h => absurd h (by omega))
  | d + 1 => pread_any (d + 1) (fun d' h => by
    obtain rfl : d' = d := by omega
    exact pmany_any d' (pread_all d'))
end Go.Proofs.YtflglpbjapgciaaGreatDoor

namespace Go.Proofs.YtflglpbjapgciaaGreatDoor
set_option linter.unusedSimpArgs false
set_option linter.unusedVariables false
open Go.RowKit
theorem wrong_is (w : World) : (Instr.typeAssert (.iface 147 (.agg #[])) 20 147 true).run Tryz.prog w = .ok (.tuple #[.agg #[], .bool true]) w := by kernel_rfl
abbrev OnG (b : Nat) : Nat → Prop := fun k => k = b ∨ k = b + 1 ∨ k = b + 1 + 1
abbrev wrongD : PanicEntry := { v := .iface 147 (.agg #[]), recovered := true }

set_option maxRecDepth 100000 in
theorem get1_idle (w : World) (b : Nat) :
    CallsD Tryz.prog 100 #[.pointer (some ⟨b, 0, none⟩), .pointer (some ⟨b + 1, 0, none⟩), .pointer (some ⟨b + 1 + 1, 0, none⟩)] .returning w fun e u' w' => e = .returned (.tuple #[]) ∧ u' = .returning ∧ w' = w := by
  refine callsD_of_wpS Tryz.func100 rfl fun c₀ cs hu => ?_
  show Code.wpS Tryz.prog _ _ { tmps := #[.pointer (some ⟨b, 0, none⟩), .pointer (some ⟨b + 1, 0, none⟩), .pointer (some ⟨b + 1 + 1, 0, none⟩), undef, undef, undef, undef, undef, undef, undef, undef, undef, undef, undef, undef, undef, undef, undef], defers := [] } _ _
  apply wpS_seq
  apply wpS_region
  simp [wpOpsS, go_sem, recoverD, hu, Exit.thenS]
  refine wpS_of_wp ?_
  go_wp2
  cases c₀
  simp_all [bodyPostS, results, Tryz.results100]

set_option maxRecDepth 100000 in
set_option maxHeartbeats 1600000 in
theorem get1_panicking (w : World) (b : Nat) (v0 v1 v2 v3 v4 n0 e0 : Value) (h1 : Blk w b [v0, v1, v2, v3, v4]) (h2 : Blk w (b + 1) [n0]) (h3 : Blk w (b + 1 + 1) [e0]) :
    CallsD Tryz.prog 100 #[.pointer (some ⟨b, 0, none⟩), .pointer (some ⟨b + 1, 0, none⟩), .pointer (some ⟨b + 1 + 1, 0, none⟩)] (.panicking [wrongE]) w fun r u' w' => r = .returned (.tuple #[]) ∧ u' = .panicking [wrongD] ∧ Blk w' b [.int .u8 0, .int .u64 0, .string ⟨#[]⟩, .slice none 0 0, .slice none 0 0] ∧ Blk w' (b + 1) [.int .i64 0] ∧ Blk w' (b + 1 + 1) [.int .i64 5] ∧ Upd (OnG b) w w' := by
  have hA := (Below.refl w.heap.size w).alloc (Nat.le_refl _) (.cells #[] 147)
  have g1 := h1.pure hA; have g2 := h2.pure hA; have g3 := h3.pure hA
  have c0 := g1.at 0 rfl; have c1 := g1.at 1 rfl; have c2 := g1.at 2 rfl; have c3 := g1.at 3 rfl; have c4 := g1.at 4 rfl; have c5 := g2.at 0 rfl; have c6 := g3.at 0 rfl
  have f0 := g1.frozen 0; have f1 := g1.frozen 1; have f2 := g1.frozen 2; have f3 := g1.frozen 3; have f4 := g1.frozen 4; have f5 := g2.frozen 0; have f6 := g3.frozen 0
  refine callsD_of_wpS Tryz.func100 rfl fun c₀ cs hu => ?_
  show Code.wpS Tryz.prog _ _ { tmps := #[.pointer (some ⟨b, 0, none⟩), .pointer (some ⟨b + 1, 0, none⟩), .pointer (some ⟨b + 1 + 1, 0, none⟩), undef, undef, undef, undef, undef, undef, undef, undef, undef, undef, undef, undef, undef, undef, undef], defers := [] } _ _
  apply wpS_seq
  apply wpS_region
  simp [wpOpsS, go_sem, recoverD, hu, Exit.thenS]
  refine wpS_of_wp ?_
  have hta := wrong_is
  go_wp2
  have t0 := ((g1.fresh5 (.int .u8 0) (.int .u64 0) (.string ⟨#[]⟩) (.slice none 0 0) (.slice none 0 0)).other ⟨b + 1, 0, none⟩ (.int .i64 0) (by simp only; omega)).other ⟨b + 1 + 1, 0, none⟩ (.int .i64 5) (by simp only; omega)
  have hu5 := Upd.at5 (w.alloc (.cells #[] 147)) b (.int .u8 0) (.int .u64 0) (.string ⟨#[]⟩) (.slice none 0 0) (.slice none 0 0)
  have t1 := ((g2.upd hu5 (fun e => by omega)).set 0 (.int .i64 0)).other ⟨b + 1 + 1, 0, none⟩ (.int .i64 5) (by simp only; omega)
  have t2 := ((g3.upd hu5 (fun e => by omega)).other ⟨b + 1, 0, none⟩ (.int .i64 0) (by simp only; omega)).set 0 (.int .i64 5)
  refine ⟨rfl, _, rfl, _, results_none rfl _ _ _, rfl, rfl, t0, t1, t2, ?_⟩
  exact (((Upd.of_below hA).trans hu5 (fun i e _ => Or.inl e)).trans (Upd.set (S := OnG b) (p := ⟨b + 1, 0, none⟩) (Or.inr (Or.inl rfl)) _) (fun _ h _ => h)).trans (Upd.set (S := OnG b) (p := ⟨b + 1 + 1, 0, none⟩) (Or.inr (Or.inr rfl)) _) (fun _ h _ => h)

/-! ### what is asked of the reader behind the reading: its length and whether it is bad -/
def PL (w : World) (qb rb vb : Nat) (left : Int) (n : Nat) (bad : Bool) : Prop :=
  Blk w qb [.pointer (some ⟨rb, 0, none⟩), .int .i64 left] ∧ Blk w rb [.pointer (some ⟨vb, 0, none⟩)] ∧ ∃ a c, Blk w vb [.slice a n c, .bool true, .bool bad]
theorem PR.pl {w : World} {qb rb vb : Nat} {left : Int} {b : List UInt8} {bad : Bool} (h : PR w qb rb vb left b bad) : PL w qb rb vb left b.length bad := by
  obtain ⟨h1, h2, ⟨bv, h3, h4, -⟩, -⟩ := h
  obtain ⟨a, c, rfl, -⟩ := h4.len
  exact ⟨h1, h2.1, a, c, h3⟩
theorem PL.upd {S : Nat → Prop} {w w' : World} {qb rb vb n : Nat} {left : Int} {bad : Bool} (h : PL w qb rb vb left n bad) (hu : Upd S w w') (h1 : ¬ S qb) (h2 : ¬ S rb) (h3 : ¬ S vb) : PL w' qb rb vb left n bad := by
  obtain ⟨k1, k2, a, c, k3⟩ := h
  exact ⟨k1.upd hu h1, k2.upd hu h2, a, c, k3.upd hu h3⟩
theorem PL.pure {w w' : World} {qb rb vb n : Nat} {left : Int} {bad : Bool} (h : PL w qb rb vb left n bad) (hB : Below w.heap.size w w') : PL w' qb rb vb left n bad := by
  obtain ⟨k1, k2, a, c, k3⟩ := h
  exact ⟨k1.pure hB, k2.pure hB, a, c, k3.pure hB⟩
theorem PL.q {w : World} {qb rb vb n : Nat} {left : Int} {bad : Bool} (h : PL w qb rb vb left n bad) : Blk w qb [.pointer (some ⟨rb, 0, none⟩), .int .i64 left] := h.1
theorem lleft_any (w : World) (qb rb vb n : Nat) (left : Int) (bad : Bool) (h : PL w qb rb vb left n bad) :
    Calls Tryz.prog 81 #[.pointer (some ⟨rb, 0, none⟩)] w fun e w' => e = .returned (.int .i64 n) ∧ w = w' := by
  obtain ⟨h1, h2, a, c, h3⟩ := h
  have c0 := h2.at 0 rfl
  have c1 := h3.at 0 rfl
  clear h1 h2 h3
  have hv : Calls Tryz.prog 99 #[.pointer (some ⟨vb, 0, none⟩)] w fun e w' => e = .returned (.int .i64 n) ∧ w = w' := by
    go_enter Tryz.func99, Tryz.ntmps99
    go_wp2
    go_ret
    exact ⟨rfl, rfl⟩
  have hvh := Lib.hid hv
  clear hv
  go_enter Tryz.func81, Tryz.ntmps81
  go_wp2_with (go_at_call 99; (with_reducible refine (hvh.out).mono ?_); rintro e w1 ⟨rfl, rfl⟩)
  go_ret
  exact ⟨rfl, rfl⟩
theorem lbad_any (w : World) (qb rb vb n : Nat) (left : Int) (bad : Bool) (h : PL w qb rb vb left n bad) :
    Calls Tryz.prog 46 #[.pointer (some ⟨rb, 0, none⟩)] w fun e w' => e = .returned (.bool bad) ∧ w = w' := by
  obtain ⟨h1, h2, a, c, h3⟩ := h
  have c0 := h2.at 0 rfl
  have c1 := h3.at 1 rfl
  have c2 := h3.at 2 rfl
  clear h1 h2 h3
  have hv : Calls Tryz.prog 84 #[.pointer (some ⟨vb, 0, none⟩)] w fun e w' => e = .returned (.bool bad) ∧ w = w' := by
    cases bad
    all_goals
      go_enter Tryz.func84, Tryz.ntmps84
      go_wp2
      go_ret
      exact ⟨rfl, rfl⟩
  have hvh := Lib.hid hv
  clear hv
  go_enter Tryz.func46, Tryz.ntmps46
  go_wp2_with (go_at_call 84; (with_reducible refine (hvh.out).mono ?_); rintro e w1 ⟨rfl, rfl⟩)
  go_ret
  exact ⟨rfl, rfl⟩
set_option maxRecDepth 100000 in
theorem lmust_ok (w : World) (qb rb vb n : Nat) (left : Int) (h : PL w qb rb vb left n false) :
    Calls Tryz.prog 102 #[.pointer (some ⟨qb, 0, none⟩), .bool true] w fun e w' => e = .returned (.tuple #[]) ∧ w = w' := by
  have c0 := h.q.at 0 rfl
  go_enter Tryz.func102, Tryz.ntmps102
  go_wp2_with fail
  refine (lbad_any _ qb rb vb n left false h).mono ?_
  rintro e w1 ⟨rfl, rfl⟩
  go_wp2
  go_end0
  exact ⟨rfl, rfl⟩
theorem lmust_no (w : World) (qb : Nat) :
    Calls Tryz.prog 102 #[.pointer (some ⟨qb, 0, none⟩), .bool false] w fun e w' => e = .panicked [wrongE] ∧ w = w' := by
  go_enter Tryz.func102, Tryz.ntmps102
  go_wp2
  exact ⟨rfl, rfl, rfl⟩

/-- What Get tells. -/
def GetPost (w : World) : Option (V × Nat) → Ending → World → Prop
  | none, e, w' => e = .returned (.tuple #[VT.zero.arg, .int .i64 0, .int .i64 5]) ∧ Below w.heap.size w w'
  | some (x, n), e, w' => ∃ t : VT, e = .returned (.tuple #[t.arg, .int .i64 (n : Int), .int .i64 0]) ∧ t.v = x ∧ Rd (fun i => w.heap.size ≤ i) w' t ∧ Below w.heap.size w w'

theorem below_g {w w1 w2 : World} (h : Below w.heap.size w w1) (hU : Upd (OnG w.heap.size) w1 w2) : Below w.heap.size w w2 :=
  h.trans (hU.below h.size (fun k hk => by unfold OnG at hk; omega))
theorem below_upd {S : Nat → Prop} {B : Nat} {w w1 w2 : World} (h : Below B w w1) (hU : Upd S w1 w2) (hS : ∀ k, S k → B ≤ k) (hB : B ≤ w1.heap.size) : Below B w w2 :=
  h.trans (hU.below hB hS)
set_option maxRecDepth 100000 in
set_option maxHeartbeats 6400000 in
theorem pget_any (w : World) (v : Value) (L : List UInt8) (h : Slc byEnc 1 w v L) (hL : Big L.length) (hT : Tb w) :
    Calls Tryz.prog 83 #[v] w (GetPost w (getP L)) := by
  have hmf : ∀ (fn : Fn) (first cap : Array Value) (w : World), (Instr.makeFunc fn first cap).run Tryz.prog w = .ok (.func fn first cap) w := fun _ _ _ _ => rfl
  have hB3 : Below w.heap.size w (((w.alloc (.cells #[.int .u8 0, .int .u64 0, .string ⟨#[]⟩, .slice none 0 0, .slice none 0 0] 60)).alloc (.cells #[.int .i64 0] 3)).alloc (.cells #[.int .i64 0] 33)) := (((Below.refl _ _).alloc (Nat.le_refl _) _).alloc (by simp) _).alloc (by simp; omega) _
  have hz3 : w.heap.size + 3 ≤ (((w.alloc (.cells #[.int .u8 0, .int .u64 0, .string ⟨#[]⟩, .slice none 0 0, .slice none 0 0] 60)).alloc (.cells #[.int .i64 0] 3)).alloc (.cells #[.int .i64 0] 33)).heap.size := by simp
  have v3 : Blk (((w.alloc (.cells #[.int .u8 0, .int .u64 0, .string ⟨#[]⟩, .slice none 0 0, .slice none 0 0] 60)).alloc (.cells #[.int .i64 0] 3)).alloc (.cells #[.int .i64 0] 33)) (w.heap.size) [.int .u8 0, .int .u64 0, .string ⟨#[]⟩, .slice none 0 0, .slice none 0 0] := ((Blk.new w [.int .u8 0, .int .u64 0, .string ⟨#[]⟩, .slice none 0 0, .slice none 0 0] 60).alloc (.cells #[.int .i64 0] 3)).alloc (.cells #[.int .i64 0] 33)
  have n3 : Blk (((w.alloc (.cells #[.int .u8 0, .int .u64 0, .string ⟨#[]⟩, .slice none 0 0, .slice none 0 0] 60)).alloc (.cells #[.int .i64 0] 3)).alloc (.cells #[.int .i64 0] 33)) (w.heap.size + 1) [.int .i64 0] := (Blk.newK (w.alloc (.cells #[.int .u8 0, .int .u64 0, .string ⟨#[]⟩, .slice none 0 0, .slice none 0 0] 60)) [.int .i64 0] 3 (w.heap.size + 1) (by simp)).alloc (.cells #[.int .i64 0] 33)
  have e3 : Blk (((w.alloc (.cells #[.int .u8 0, .int .u64 0, .string ⟨#[]⟩, .slice none 0 0, .slice none 0 0] 60)).alloc (.cells #[.int .i64 0] 3)).alloc (.cells #[.int .i64 0] 33)) (w.heap.size + 1 + 1) [.int .i64 0] := Blk.newK ((w.alloc (.cells #[.int .u8 0, .int .u64 0, .string ⟨#[]⟩, .slice none 0 0, .slice none 0 0] 60)).alloc (.cells #[.int .i64 0] 3)) [.int .i64 0] 33 (w.heap.size + 1 + 1) (by simp)
  have hrd := fun (u : World) (qb rb vb : Nat) (p : PR u qb rb vb 200 L false) => pread_all 6 u qb rb vb 200 1 L p (by omega) (by omega) (by omega) (by omega) hL
  obtain ⟨va, vc, rfl, -⟩ := h.len
  rcases hx : rdP 6 200 L with _ | ⟨x, left, r⟩
  · simp only [hx] at hrd
    have hrdh := Lib.hid hrd
    have hpost := Lib.hid (show getP L = none by unfold getP; rw [hx]; rfl)
    clear hrd hx
    go_enter_defers Tryz.func83, Tryz.ntmps83
    go_wp2_with (first | (go_at_call 38; (refine (oopen_any _ _ L (h.pure hB3) hL).mono ?_); rintro e w4 ⟨rb, vb, rfl, hp4, hs4, hvb, hrb, hB4⟩; have hb5 := (Below.refl w4.heap.size w4).alloc (Nat.le_refl _) (.cells #[.pointer (some ⟨rb, 0, none⟩), .int .i64 200] 151); have p5 : PR (w4.alloc (.cells #[.pointer (some ⟨rb, 0, none⟩), .int .i64 200] 151)) w4.heap.size rb vb 200 L false := ⟨Blk.new w4 [.pointer (some ⟨rb, 0, none⟩), .int .i64 200] 151, hp4.pure hb5, hs4.pure hb5, hp4.1.lt⟩; have v5 := (v3.pure hB4).pure hb5; have n5 := (n3.pure hB4).pure hb5; have e5 := (e3.pure hB4).pure hb5; have hT5 := (hB3.trans (hB4.mono hB3.size)).trans (hb5.mono (hB3.trans (hB4.mono hB3.size)).size); have hA4 : w.heap.size + 3 ≤ w4.heap.size := Nat.le_trans hz3 hB4.size; have hvb2 : w.heap.size + 3 ≤ vb := Nat.le_trans hz3 hvb; have hvr : vb < rb := hp4.2) | (go_at_call 101; refine (hrdh.out _ _ _ _ p5).mono ?_; rintro e w6 ⟨rfl, hu6⟩; have v6 := v5.upd hu6 (fun e => by unfold Two at e; omega); have n6 := n5.upd hu6 (fun e => by unfold Two at e; omega); have e6 := e5.upd hu6 (fun e => by unfold Two at e; omega); have hT6 := below_upd hT5 hu6 (fun k hk => by unfold Two at hk; omega) hT5.size))
    refine leaves_cons (f := 100) (args := #[.pointer (some ⟨w.heap.size, 0, none⟩), .pointer (some ⟨w.heap.size + 1, 0, none⟩), .pointer (some ⟨w.heap.size + 1 + 1, 0, none⟩)]) (by simp) (by simp [go_sem]) ?_
    refine (get1_panicking _ (w.heap.size) _ _ _ _ _ _ _ v6 n6 e6).mono ?_
    rintro e u' w9 ⟨rfl, rfl, v9, n9, e9, hU9⟩
    have g0 := v9.at 0 rfl; have g1 := v9.at 1 rfl; have g2 := v9.at 2 rfl; have g3 := v9.at 3 rfl; have g4 := v9.at 4 rfl; have g5 := n9.at 0 rfl; have g6 := e9.at 0 rfl
    simp only [Leaves, settle, List.dropWhile_nil]
    refine ⟨_, (by simp [results, Tryz.results83, go_sem, g0, g1, g2, g3, g4, g5, g6]; rfl), ?_⟩
    rw [hpost.out]
    exact ⟨rfl, below_g hT6 hU9⟩
  · simp only [hx] at hrd
    have hrdh := Lib.hid hrd
    have hrl : r.length ≤ L.length := rdP_len hx
    have hgp : getP L = if x.chk = 0 then some (x, L.length - r.length) else none := by unfold getP; rw [hx]; rfl
    clear hrd hx
    have hTh := Lib.hid hT
    have hLle := Lib.hid hL.le
    clear hT
    by_cases hc : x.chk = 0
    rotate_left 1
    · rw [if_neg hc] at hgp
      have hpost := Lib.hid hgp
      have hcb : (x.chk == 0) = false := beq_eq_false_iff_ne.2 hc
      clear hgp hc
      go_enter_defers Tryz.func83, Tryz.ntmps83
      go_wp2_with (first | (go_at_call 38; (refine (oopen_any _ _ L (h.pure hB3) hL).mono ?_); rintro e w4 ⟨rb, vb, rfl, hp4, hs4, hvb, hrb, hB4⟩; have hb5 := (Below.refl w4.heap.size w4).alloc (Nat.le_refl _) (.cells #[.pointer (some ⟨rb, 0, none⟩), .int .i64 200] 151); have p5 : PR (w4.alloc (.cells #[.pointer (some ⟨rb, 0, none⟩), .int .i64 200] 151)) w4.heap.size rb vb 200 L false := ⟨Blk.new w4 [.pointer (some ⟨rb, 0, none⟩), .int .i64 200] 151, hp4.pure hb5, hs4.pure hb5, hp4.1.lt⟩; have v5 := (v3.pure hB4).pure hb5; have n5 := (n3.pure hB4).pure hb5; have e5 := (e3.pure hB4).pure hb5; have hT5 := (hB3.trans (hB4.mono hB3.size)).trans (hb5.mono (hB3.trans (hB4.mono hB3.size)).size); have hA4 : w.heap.size + 3 ≤ w4.heap.size := Nat.le_trans hz3 hB4.size; have hvb2 : w.heap.size + 3 ≤ vb := Nat.le_trans hz3 hvb; have hvr : vb < rb := hp4.2) | (go_at_call 101; refine (hrdh.out _ _ _ _ p5).mono ?_; rintro e w6 ⟨t, he, htv, htR, p6, hu6⟩; have v6 := v5.upd hu6 (fun e => by unfold Two at e; omega); have n6 := n5.upd hu6 (fun e => by unfold Two at e; omega); have e6 := e5.upd hu6 (fun e => by unfold Two at e; omega); have hT6 := below_upd hT5 hu6 (fun k hk => by unfold Two at hk; omega) hT5.size; obtain ⟨tk, tn, ts, ka, kc, la, lc, tks, tl, rfl, -, -, -, -⟩ := htR.open; rw [VT.arg_mk] at he; subst he; have u7 := Upd.at5 w6 w.heap.size (.int .u8 tk) (.int .u64 tn) (.string ts) (.slice ka tks.length kc) (.slice la tl.length lc); have v7 := v6.fresh5 (.int .u8 tk) (.int .u64 tn) (.string ts) (.slice ka tks.length kc) (.slice la tl.length lc); have n7 := n6.upd u7 (fun e => by omega); have e7 := e6.upd u7 (fun e => by omega); have q7 := p6.pl.upd u7 (fun e => by omega) (fun e => by omega) (fun e => by omega); have hT7 := below_upd hT6 u7 (fun k hk => by omega) hT6.size; have hR7 := htR.upd u7 (fun i hi e => by have h1 := hb5.size; omega); have hck := fun (u : World) (hR : Rd (fun i => (w4.alloc (.cells #[.pointer (some ⟨rb, 0, none⟩), .int .i64 200] 151)).heap.size ≤ i) u (.mk tk tn ts (.slice ka tks.length kc) (.slice la tl.length lc) tks tl)) (hT : Tb u) => check_any _ _ u hR hT; simp only [VT.arg_mk, htv] at hck; have hckh := Lib.hid hck; clear hck; have htvh := Lib.hid htv; clear htv; have a0 := v6.at 0 rfl; have z0 := v6.frozen 0; have b0 := v7.at 0 rfl; have a1 := v6.at 1 rfl; have z1 := v6.frozen 1; have b1 := v7.at 1 rfl; have a2 := v6.at 2 rfl; have z2 := v6.frozen 2; have b2 := v7.at 2 rfl; have a3 := v6.at 3 rfl; have z3 := v6.frozen 3; have b3 := v7.at 3 rfl; have a4 := v6.at 4 rfl; have z4 := v6.frozen 4; have b4 := v7.at 4 rfl) | (go_at_call 91; refine (hckh.out _ hR7 (hTh.out.pure hT7)).mono ?_; rintro e w8 ⟨rfl, hB8⟩; have v8 := v7.pure hB8; have n8 := n7.pure hB8; have e8 := e7.pure hB8; have q8 := q7.pure hB8; have hT8 := hT7.trans (hB8.mono hT7.size); have hR8 := hR7.pure hB8) | (go_at_call 102; (with_reducible refine (lmust_no _ _).mono ?_); rintro e _ ⟨rfl, rfl⟩))
      refine leaves_cons (f := 100) (args := #[.pointer (some ⟨w.heap.size, 0, none⟩), .pointer (some ⟨w.heap.size + 1, 0, none⟩), .pointer (some ⟨w.heap.size + 1 + 1, 0, none⟩)]) (by simp) (by simp [go_sem]) ?_
      refine (get1_panicking _ (w.heap.size) _ _ _ _ _ _ _ v8 n8 e8).mono ?_
      rintro e u' w9 ⟨rfl, rfl, v9, n9, e9, hU9⟩
      have g0 := v9.at 0 rfl; have g1 := v9.at 1 rfl; have g2 := v9.at 2 rfl; have g3 := v9.at 3 rfl; have g4 := v9.at 4 rfl; have g5 := n9.at 0 rfl; have g6 := e9.at 0 rfl
      simp only [Leaves, settle, List.dropWhile_nil]
      refine ⟨_, (by simp [results, Tryz.results83, go_sem, g0, g1, g2, g3, g4, g5, g6]; rfl), ?_⟩
      rw [hpost.out]
      exact ⟨rfl, below_g hT8 hU9⟩
    · rw [if_pos hc] at hgp
      have hpost := Lib.hid hgp
      have hcz := Lib.hid hc
      have hwn : IntKind.i64.wrap ((L.length : Int) - (r.length : Int)) = (L.length : Int) - (r.length : Int) := wrap_i64 _ (by omega) (by have := hLle.out; omega)
      clear hgp hc
      go_enter_defers Tryz.func83, Tryz.ntmps83
      go_wp2_with (first | (go_at_call 38; (refine (oopen_any _ _ L (h.pure hB3) hL).mono ?_); rintro e w4 ⟨rb, vb, rfl, hp4, hs4, hvb, hrb, hB4⟩; have hb5 := (Below.refl w4.heap.size w4).alloc (Nat.le_refl _) (.cells #[.pointer (some ⟨rb, 0, none⟩), .int .i64 200] 151); have p5 : PR (w4.alloc (.cells #[.pointer (some ⟨rb, 0, none⟩), .int .i64 200] 151)) w4.heap.size rb vb 200 L false := ⟨Blk.new w4 [.pointer (some ⟨rb, 0, none⟩), .int .i64 200] 151, hp4.pure hb5, hs4.pure hb5, hp4.1.lt⟩; have v5 := (v3.pure hB4).pure hb5; have n5 := (n3.pure hB4).pure hb5; have e5 := (e3.pure hB4).pure hb5; have hT5 := (hB3.trans (hB4.mono hB3.size)).trans (hb5.mono (hB3.trans (hB4.mono hB3.size)).size); have hA4 : w.heap.size + 3 ≤ w4.heap.size := Nat.le_trans hz3 hB4.size; have hvb2 : w.heap.size + 3 ≤ vb := Nat.le_trans hz3 hvb; have hvr : vb < rb := hp4.2) | (go_at_call 101; refine (hrdh.out _ _ _ _ p5).mono ?_; rintro e w6 ⟨t, he, htv, htR, p6, hu6⟩; have v6 := v5.upd hu6 (fun e => by unfold Two at e; omega); have n6 := n5.upd hu6 (fun e => by unfold Two at e; omega); have e6 := e5.upd hu6 (fun e => by unfold Two at e; omega); have hT6 := below_upd hT5 hu6 (fun k hk => by unfold Two at hk; omega) hT5.size; obtain ⟨tk, tn, ts, ka, kc, la, lc, tks, tl, rfl, -, -, -, -⟩ := htR.open; rw [VT.arg_mk] at he; subst he; have u7 := Upd.at5 w6 w.heap.size (.int .u8 tk) (.int .u64 tn) (.string ts) (.slice ka tks.length kc) (.slice la tl.length lc); have v7 := v6.fresh5 (.int .u8 tk) (.int .u64 tn) (.string ts) (.slice ka tks.length kc) (.slice la tl.length lc); have n7 := n6.upd u7 (fun e => by omega); have e7 := e6.upd u7 (fun e => by omega); have q7 := p6.pl.upd u7 (fun e => by omega) (fun e => by omega) (fun e => by omega); have hT7 := below_upd hT6 u7 (fun k hk => by omega) hT6.size; have hR7 := htR.upd u7 (fun i hi e => by have h1 := hb5.size; omega); have hck := fun (u : World) (hR : Rd (fun i => (w4.alloc (.cells #[.pointer (some ⟨rb, 0, none⟩), .int .i64 200] 151)).heap.size ≤ i) u (.mk tk tn ts (.slice ka tks.length kc) (.slice la tl.length lc) tks tl)) (hT : Tb u) => check_any _ _ u hR hT; simp only [VT.arg_mk, htv, hcz.out] at hck; have hckh := Lib.hid hck; clear hck; have htvh := Lib.hid htv; clear htv; have a0 := v6.at 0 rfl; have z0 := v6.frozen 0; have b0 := v7.at 0 rfl; have a1 := v6.at 1 rfl; have z1 := v6.frozen 1; have b1 := v7.at 1 rfl; have a2 := v6.at 2 rfl; have z2 := v6.frozen 2; have b2 := v7.at 2 rfl; have a3 := v6.at 3 rfl; have z3 := v6.frozen 3; have b3 := v7.at 3 rfl; have a4 := v6.at 4 rfl; have z4 := v6.frozen 4; have b4 := v7.at 4 rfl) | (go_at_call 91; refine (hckh.out _ hR7 (hTh.out.pure hT7)).mono ?_; rintro e w8 ⟨rfl, hB8⟩; have v8 := v7.pure hB8; have n8 := n7.pure hB8; have e8 := e7.pure hB8; have q8 := q7.pure hB8; have hT8 := hT7.trans (hB8.mono hT7.size); have hR8 := hR7.pure hB8) | (go_at_call 102; (with_reducible refine (lmust_ok _ _ _ _ _ _ q8).mono ?_); rintro e _ ⟨rfl, rfl⟩))
      have vd := v8.drew; have nd := n8.drew; have ed := e8.drew; have qd := q8.q.drew; have hTd := below_dr hT8
      have f0 := vd.frozen 0; have f1 := vd.frozen 1; have f2 := vd.frozen 2; have f3 := vd.frozen 3; have f4 := vd.frozen 4; have f5 := nd.frozen 0; have f6 := ed.frozen 0; have f7 := nd.at 0 rfl; have f8 := ed.at 0 rfl
      have k0 := vd.at 0 rfl; have k1 := vd.at 1 rfl; have k2 := vd.at 2 rfl; have k3 := vd.at 3 rfl; have k4 := vd.at 4 rfl; have k5 := qd.at 0 rfl
      have u9 := Upd.at5 w8.drew w.heap.size (.int .u8 tk) (.int .u64 tn) (.string ts) (.slice ka tks.length kc) (.slice la tl.length lc)
      have v9 := vd.fresh5 (.int .u8 tk) (.int .u64 tn) (.string ts) (.slice ka tks.length kc) (.slice la tl.length lc); have n9 := nd.upd u9 (fun e => by omega); have e9 := ed.upd u9 (fun e => by omega); have q9 := qd.upd u9 (fun e => by omega)
      have v10 := v9.other ⟨w.heap.size + 1, 0, none⟩ (.int .i64 ((L.length : Int) - (r.length : Int))) (by simp only; omega); have n10 := n9.set 0 (.int .i64 ((L.length : Int) - (r.length : Int))); have e10 := e9.other ⟨w.heap.size + 1, 0, none⟩ (.int .i64 ((L.length : Int) - (r.length : Int))) (by simp only; omega); have q10 := q9.other ⟨w.heap.size + 1, 0, none⟩ (.int .i64 ((L.length : Int) - (r.length : Int))) (by simp only; omega)
      have v11 := v10.other ⟨w.heap.size + 1 + 1, 0, none⟩ (.int .i64 0) (by simp only; omega); have n11 := n10.other ⟨w.heap.size + 1 + 1, 0, none⟩ (.int .i64 0) (by simp only; omega); have e11 := e10.set 0 (.int .i64 0); have q11 := q10.other ⟨w.heap.size + 1 + 1, 0, none⟩ (.int .i64 0) (by simp only; omega)
      have l0 := v9.at 0 rfl; have l1 := v9.at 1 rfl; have l2 := v9.at 2 rfl; have l3 := v9.at 3 rfl; have l4 := v9.at 4 rfl; have l5 := q9.at 0 rfl
      have m0 := v10.at 0 rfl; have m1 := v10.at 1 rfl; have m2 := v10.at 2 rfl; have m3 := v10.at 3 rfl; have m4 := v10.at 4 rfl; have m5 := q10.at 0 rfl
      have o0 := v11.at 0 rfl; have o1 := v11.at 1 rfl; have o2 := v11.at 2 rfl; have o3 := v11.at 3 rfl; have o4 := v11.at 4 rfl; have o5 := q11.at 0 rfl
      have U9 := Upd.at5 w8 w.heap.size (.int .u8 tk) (.int .u64 tn) (.string ts) (.slice ka tks.length kc) (.slice la tl.length lc); have V9 := v8.fresh5 (.int .u8 tk) (.int .u64 tn) (.string ts) (.slice ka tks.length kc) (.slice la tl.length lc); have N9 := n8.upd U9 (fun e => by omega); have E9 := e8.upd U9 (fun e => by omega); have Q9 := q8.q.upd U9 (fun e => by omega); have V10 := V9.other ⟨w.heap.size + 1, 0, none⟩ (.int .i64 ((L.length : Int) - (r.length : Int))) (by simp only; omega); have N10 := N9.set 0 (.int .i64 ((L.length : Int) - (r.length : Int))); have E10 := E9.other ⟨w.heap.size + 1, 0, none⟩ (.int .i64 ((L.length : Int) - (r.length : Int))) (by simp only; omega); have Q10 := Q9.other ⟨w.heap.size + 1, 0, none⟩ (.int .i64 ((L.length : Int) - (r.length : Int))) (by simp only; omega)
      have h0 := v8.at 0 rfl; have j0 := v8.frozen 0; have h1 := v8.at 1 rfl; have j1 := v8.frozen 1; have h2 := v8.at 2 rfl; have j2 := v8.frozen 2; have h3 := v8.at 3 rfl; have j3 := v8.frozen 3; have h4 := v8.at 4 rfl; have j4 := v8.frozen 4; have h5 := N9.at 0 rfl; have j5 := N9.frozen 0; have h6 := E10.at 0 rfl; have j6 := E10.frozen 0
      have V11 := V10.other ⟨w.heap.size + 1 + 1, 0, none⟩ (.int .i64 0) (by simp only; omega); have N11 := N10.other ⟨w.heap.size + 1 + 1, 0, none⟩ (.int .i64 0) (by simp only; omega); have E11 := E10.set 0 (.int .i64 0); have Q11 := Q10.other ⟨w.heap.size + 1 + 1, 0, none⟩ (.int .i64 0) (by simp only; omega)
      have V9d := V9.drew; have Q9d := Q9.drew
      have aa0 := V9d.at 0 rfl; have aa1 := V9d.at 1 rfl; have aa2 := V9d.at 2 rfl; have aa3 := V9d.at 3 rfl; have aa4 := V9d.at 4 rfl; have aa5 := Q9d.at 0 rfl
      have V10d := V10.drew; have Q10d := Q10.drew
      have ab0 := V10d.at 0 rfl; have ab1 := V10d.at 1 rfl; have ab2 := V10d.at 2 rfl; have ab3 := V10d.at 3 rfl; have ab4 := V10d.at 4 rfl; have ab5 := Q10d.at 0 rfl
      have V11d := V11.drew; have Q11d := Q11.drew
      have ac0 := V11d.at 0 rfl; have ac1 := V11d.at 1 rfl; have ac2 := V11d.at 2 rfl; have ac3 := V11d.at 3 rfl; have ac4 := V11d.at 4 rfl; have ac5 := Q11d.at 0 rfl
      have y0 := n9.at 0 rfl; have y1 := n9.frozen 0; have y2 := e10.at 0 rfl; have y3 := e10.frozen 0
      refine wp_region_noPanic ?_
      refine wp_region_held_drew (S := (fun w' => w'.cell? ⟨w.heap.size, 0, none⟩ = some (.int .u8 tk) ∧ w'.cell? ⟨w.heap.size, 1, none⟩ = some (.int .u64 tn) ∧ w'.cell? ⟨w.heap.size, 2, none⟩ = some (.string ts) ∧ w'.cell? ⟨w.heap.size, 3, none⟩ = some (.slice ka tks.length kc) ∧ w'.cell? ⟨w.heap.size, 4, none⟩ = some (.slice la tl.length lc) ∧ w'.cell? ⟨w4.heap.size, 0, none⟩ = some (.pointer (some ⟨rb, 0, none⟩)))) (by kernel_rfl) ?_ (fun hHeld => ?_)
      · (first | with_reducible exact ⟨k0, k1, k2, k3, k4, k5⟩ | with_reducible exact ⟨l0, l1, l2, l3, l4, l5⟩ | with_reducible exact ⟨m0, m1, m2, m3, m4, m5⟩ | with_reducible exact ⟨o0, o1, o2, o3, o4, o5⟩ | with_reducible exact ⟨aa0, aa1, aa2, aa3, aa4, aa5⟩ | with_reducible exact ⟨ab0, ab1, ab2, ab3, ab4, ab5⟩ | with_reducible exact ⟨ac0, ac1, ac2, ac3, ac4, ac5⟩)
      refine takeY 0 18 rfl rfl (v := ?_) ?_ hHeld ?_
      rotate_left 1
      · (intro w hSw; (try dsimp only at hSw); go_simp; (try with_reducible rfl))
      try simp only [Act.put, lsT, lsZ, lsS]
      refine takeY 1 19 rfl rfl (v := ?_) ?_ hHeld ?_
      rotate_left 1
      · (intro w hSw; (try dsimp only at hSw); go_simp; (try with_reducible rfl))
      try simp only [Act.put, lsT, lsZ, lsS]
      refine takeY 2 20 rfl rfl (v := ?_) ?_ hHeld ?_
      rotate_left 1
      · (intro w hSw; (try dsimp only at hSw); go_simp; (try with_reducible rfl))
      try simp only [Act.put, lsT, lsZ, lsS]
      refine takeY 3 21 rfl rfl (v := ?_) ?_ hHeld ?_
      rotate_left 1
      · (intro w hSw; (try dsimp only at hSw); go_simp; (try with_reducible rfl))
      try simp only [Act.put, lsT, lsZ, lsS]
      refine takeY 4 22 rfl rfl (v := ?_) ?_ hHeld ?_
      rotate_left 1
      · (intro w hSw; (try dsimp only at hSw); go_simp; (try with_reducible rfl))
      try simp only [Act.put, lsT, lsZ, lsS]
      refine takeY 5 23 rfl rfl (v := ?_) ?_ hHeld ?_
      rotate_left 1
      · (intro w hSw; (try dsimp only at hSw); go_simp; (try with_reducible rfl))
      try simp only [Act.put, lsT, lsZ, lsS]
      refine takeY 6 24 rfl rfl (v := ?_) ?_ hHeld ?_
      rotate_left 1
      · (intro w hSw; (try dsimp only at hSw); go_simp; (try with_reducible rfl))
      try simp only [Act.put, lsT, lsZ, lsS]
      refine wpAnyH_ready (rs := [7]) (by kernel_rfl) (by simp) ?_
      refine AllReadyH.cons rfl (fun K hK => ?_) AllReadyH.nil
      go_simp
      (go_at_call 81; refine (lleft_any _ w4.heap.size rb vb _ left false (q8.pure (below_dr (Below.refl w8.heap.size w8)))).mono ?_; rintro e _ ⟨rfl, rfl⟩)
      refine hK.out _ _ ?_ (fun hHeld => ?_)
      · (first | with_reducible exact ⟨k0, k1, k2, k3, k4, k5⟩ | with_reducible exact ⟨l0, l1, l2, l3, l4, l5⟩ | with_reducible exact ⟨m0, m1, m2, m3, m4, m5⟩ | with_reducible exact ⟨o0, o1, o2, o3, o4, o5⟩ | with_reducible exact ⟨aa0, aa1, aa2, aa3, aa4, aa5⟩ | with_reducible exact ⟨ab0, ab1, ab2, ab3, ab4, ab5⟩ | with_reducible exact ⟨ac0, ac1, ac2, ac3, ac4, ac5⟩)
      clear hK K
      try simp only [Act.put, lsT, lsZ, lsS]
      refine takeY 8 26 rfl rfl (v := ?_) ?_ hHeld ?_
      rotate_left 1
      · (intro w hSw; (try dsimp only at hSw); go_simp; (try with_reducible rfl))
      try simp only [Act.put, lsT, lsZ, lsS]
      refine wpAnyH_ready (rs := [9]) (by kernel_rfl) (by simp) ?_
      refine AllReadyH.cons rfl (fun K hK => ?_) AllReadyH.nil
      go_simp
      skip
      refine hK.out _ _ ?_ (fun hHeld => ?_)
      · (first | with_reducible exact ⟨k0, k1, k2, k3, k4, k5⟩ | with_reducible exact ⟨l0, l1, l2, l3, l4, l5⟩ | with_reducible exact ⟨m0, m1, m2, m3, m4, m5⟩ | with_reducible exact ⟨o0, o1, o2, o3, o4, o5⟩ | with_reducible exact ⟨aa0, aa1, aa2, aa3, aa4, aa5⟩ | with_reducible exact ⟨ab0, ab1, ab2, ab3, ab4, ab5⟩ | with_reducible exact ⟨ac0, ac1, ac2, ac3, ac4, ac5⟩)
      clear hK K
      try simp only [Act.put, lsT, lsZ, lsS]
      refine wpAnyH_ready (rs := [10]) (by kernel_rfl) (by simp) ?_
      refine AllReadyH.cons rfl (fun K hK => ?_) AllReadyH.nil
      go_simp
      skip
      refine hK.out _ _ ?_ (fun hHeld => ?_)
      · (first | with_reducible exact ⟨k0, k1, k2, k3, k4, k5⟩ | with_reducible exact ⟨l0, l1, l2, l3, l4, l5⟩ | with_reducible exact ⟨m0, m1, m2, m3, m4, m5⟩ | with_reducible exact ⟨o0, o1, o2, o3, o4, o5⟩ | with_reducible exact ⟨aa0, aa1, aa2, aa3, aa4, aa5⟩ | with_reducible exact ⟨ab0, ab1, ab2, ab3, ab4, ab5⟩ | with_reducible exact ⟨ac0, ac1, ac2, ac3, ac4, ac5⟩)
      clear hK K
      try simp only [Act.put, lsT, lsZ, lsS]
      refine wpAnyH_ready (rs := [11]) (by kernel_rfl) (by simp) ?_
      refine AllReadyH.cons rfl (fun K hK => ?_) AllReadyH.nil
      go_simp
      skip
      refine hK.out _ _ ?_ (fun hHeld => ?_)
      · (first | with_reducible exact ⟨k0, k1, k2, k3, k4, k5⟩ | with_reducible exact ⟨l0, l1, l2, l3, l4, l5⟩ | with_reducible exact ⟨m0, m1, m2, m3, m4, m5⟩ | with_reducible exact ⟨o0, o1, o2, o3, o4, o5⟩ | with_reducible exact ⟨aa0, aa1, aa2, aa3, aa4, aa5⟩ | with_reducible exact ⟨ab0, ab1, ab2, ab3, ab4, ab5⟩ | with_reducible exact ⟨ac0, ac1, ac2, ac3, ac4, ac5⟩)
      clear hK K
      try simp only [Act.put, lsT, lsZ, lsS]
      refine wpAnyH_done (by kernel_rfl) ?_ _
      refine NoPanic.normal ?_
      go_wp2
      have N11d := N11.drew; have E11d := E11.drew
      have g0 := V11d.at 0 rfl; have g1 := V11d.at 1 rfl; have g2 := V11d.at 2 rfl; have g3 := V11d.at 3 rfl; have g4 := V11d.at 4 rfl; have g5 := N11d.at 0 rfl; have g6 := E11d.at 0 rfl
      have hU := ((((U9.mono (T := OnG w.heap.size) (fun i e _ => Or.inl e)).trans (Upd.set (S := OnG w.heap.size) (p := ⟨w.heap.size + 1, 0, none⟩) (Or.inr (Or.inl rfl)) (.int .i64 ((L.length : Int) - (r.length : Int)))) (fun _ h _ => h)).trans (Upd.set (S := OnG w.heap.size) (p := ⟨w.heap.size + 1 + 1, 0, none⟩) (Or.inr (Or.inr rfl)) (.int .i64 0)) (fun _ h _ => h))).drew
      refine leaves_cons (f := 100) (args := #[.pointer (some ⟨w.heap.size, 0, none⟩), .pointer (some ⟨w.heap.size + 1, 0, none⟩), .pointer (some ⟨w.heap.size + 1 + 1, 0, none⟩)]) (by simp) (by simp [go_sem]) ?_
      refine (get1_idle _ (w.heap.size)).mono ?_
      rintro e u' w10 ⟨rfl, rfl, rfl⟩
      simp only [Leaves, settle]
      refine ⟨.tuple #[.agg #[.int .u8 tk, .int .u64 tn, .string ts, .slice ka tks.length kc, .slice la tl.length lc], .int .i64 ((L.length : Int) - (r.length : Int)), .int .i64 0], (by simp [results, Tryz.results83, go_sem, g0, g1, g2, g3, g4, g5, g6]), ?_⟩
      rw [hpost.out]
      have hh5 := hb5.size
      refine ⟨.mk tk tn ts (.slice ka tks.length kc) (.slice la tl.length lc) tks tl, by rw [Int.ofNat_sub hrl]; rfl, htvh.out, ?_, below_g hT8 hU⟩
      exact (hR8.upd hU (fun i hi e => by unfold OnG at e; omega)).weaken (fun i _ hi => by omega)
end Go.Proofs.YtflglpbjapgciaaGreatDoor
