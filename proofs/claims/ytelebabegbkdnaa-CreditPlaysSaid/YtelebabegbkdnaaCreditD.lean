/- Contracts of package credit, fourth part: the iterator turn, and Turn. Conditions: the round's memory as 'Rnd' says; at most a million subscriptions; credits fit. -/
import Derived.RangeFuncNested
import Derived.RangeFuncBound
import Derived.RangeFuncCalls
import Derived.RangeFuncLeaves
import Derived.Shelf.Abstract
import Derived.Shelf.RegionOpen
import Derived.WalkKit
import Derived.OwnWalkIn
import Derived.TacticsInMore
import Derived.LoopNIn
import Derived.LoopIn
import Derived.Sort.CutIn
import Derived.Test.YtelebabegbkdnaaCreditB
namespace Go.Proofs.Ytelebabegbkdnaa
open Go.RowKit Go.Shelf
attribute [local go_sem] Oper.semAt_some

/-- What has come when k rounds are over. -/
def upto {α : Type} (f : Nat → α) (k : Nat) : List α := (List.range k).map f
theorem upto_succ {α : Type} (f : Nat → α) (k : Nat) : upto f (k + 1) = upto f k ++ [f k] := by simp [upto, List.range_succ]
theorem upto_length {α : Type} (f : Nat → α) (k : Nat) : (upto f k).length = k := by simp [upto]

/-- The place of the j-th turn. -/
def place (n nx : Nat) (h : 0 < n) (j : Nat) : Fin n := ⟨(nx + j) % n, Nat.mod_lt _ h⟩

set_option maxRecDepth 100000 in
set_option maxHeartbeats 2000000 in
theorem turn1_in (l B n₀ r nx n : Nat) (v : Value) (a : Option Addr) (cap : Nat) (hv : v = .slice a n cap) (hn : 0 < n) (hn1 : n ≤ 1000000) (hnx : nx ≤ n) (hB : B < n₀) (hr : r < n₀) (J Jx : List (Fin n) → World → Prop) (hJd : ∀ s A, J s A → J s A.drew)
    (hY : ∀ pre x W, J pre W → pre.length < n → YieldAt Fence.wide (5 - 1) Try.prog l #[.int .i64 (x.1 : Int)] W fun e W' =>
      (e = .returned (.bool true) ∧ J (pre ++ [x]) W' ∧ Below n₀ W W') ∨ (e = .returned (.bool false) ∧ Jx (pre ++ [x]) W'))
    (W : World) (hBc : W.cell? ⟨B, 0, none⟩ = some (.pointer (some ⟨r, 0, none⟩))) (hr0 : W.cell? ⟨r, 0, none⟩ = some v) (hr1 : W.cell? ⟨r, 1, none⟩ = some (.int .i64 nx)) (h0 : J [] W) :
    CallsIn Fence.wide 5 Try.prog 35 #[.func (.yield l) #[] #[], .pointer (some ⟨B, 0, none⟩)] W fun e W' => (∃ v, e = .returned v) ∧
      ((∃ ys, ys = upto (place n nx hn) n ∧ J ys W') ∨ (∃ pre, (∃ k, k ≤ n ∧ pre = upto (place n nx hn) k) ∧ Jx pre W')) := by
  subst hv
  refine callsIn_of_wp Try.func35 rfl trivial ?_ rfl
  simp only [Try.ntmps35, List.size_toArray, List.length_cons, List.length_nil, Nat.reduceAdd, Nat.reduceSub, Array.replicate_succ, Array.replicate_zero, List.push_toArray, List.append_toArray, List.nil_append, List.cons_append]
  gi_wp2
  gi_loopw [9] (fun i wr => ∃ k : Nat, k ≤ n ∧ i = .int .i64 k ∧ J (upto (place n nx hn) k) wr ∧ Below n₀ W wr)
    (fun i _ => n - (intOf i).toNat)
  case atStart => exact ⟨0, Nat.zero_le _, rfl, h0, Below.refl _ _⟩
  case round =>
    obtain ⟨k, hk, rfl, hJs, hnb⟩ := hrel
    have c0 := (hnb.cell (p := ⟨B, 0, none⟩) hB).trans hBc
    have c1 := (hnb.cell (p := ⟨r, 0, none⟩) hr).trans hr0
    have c2 := (hnb.cell (p := ⟨r, 1, none⟩) hr).trans hr1
    by_cases hlt : k < n
    · obtain ⟨fn, tmps, assign, body, hy, hR⟩ := hY _ (place n nx hn k) wr.drew (hJd _ _ hJs) (by rw [upto_length]; exact hlt)
      have e1 : IntKind.i64.wrap ((nx : Int) + (k : Int)) = (nx : Int) + k := IntWalk.i64_in _ (by omega)
      have e2 : ((nx : Int) + (k : Int)).tmod (n : Int) = (((place n nx hn k : Fin n) : Nat) : Int) := by
        rw [Int.tmod_eq_emod_of_nonneg (by omega)]; simp [place]
      have e3 : ((n : Int) == 0) = false := by simp; omega
      have e4 : ¬ ((n : Int) = 0) := by omega
      have e5 : ¬ (n = 0) := by omega
      have hmix : Try.prog.follows .mixedOrders = true := by kernel_rfl
      gi_wp2
      have hR' := hR.mono (R' := fun e W' => ∃ b : Bool, e = .returned (.bool b) ∧ ((b = true ∧ J (upto (place n nx hn) k ++ [place n nx hn k]) W' ∧ Below n₀ wr.drew W') ∨ (b = false ∧ Jx (upto (place n nx hn) k ++ [place n nx hn k]) W')))
        (fun e W' h => h.elim (fun h => ⟨true, h.1, .inl ⟨rfl, h.2⟩⟩) (fun h => ⟨false, h.1, .inr ⟨rfl, h.2⟩⟩))
      gi_cut [26] from 10 (fun s26 wc => ∃ b : Bool, s26 = .bool (!b) ∧ ((b = true ∧ J (upto (place n nx hn) k ++ [place n nx hn k]) wc ∧ Below n₀ wr.drew wc) ∨ (b = false ∧ Jx (upto (place n nx hn) k ++ [place n nx hn k]) wc)))
      case first =>
        gi_region_with_o (refine hR'.mono ?_; rintro e W3 ⟨b, rfl, hor⟩)
        all_goals (gi_wp2; gi_meet; exact ⟨b, rfl, hor⟩)
      case rest =>
        obtain ⟨b, rfl, ⟨rfl, hJ3, hk3⟩ | ⟨rfl, hJx3⟩⟩ := hcut
        · gi_wp2
          go_roundw
          case rel => exact ⟨k + 1, by omega, by simp, by rw [upto_succ]; exact hJ3, hnb.trans ((Below.refl _ _).drew.trans hk3)⟩
          case measure => simp [intOf]; omega
        · gi_wp2
          refine bodyPost_ret (results_none rfl _ _ _) rfl ?_
          exact ⟨⟨_, rfl⟩, .inr ⟨_, ⟨k + 1, by omega, (upto_succ _ _).symm⟩, hJx3⟩⟩
    · obtain rfl : k = n := by omega
      gi_wp2
      go_end0
      exact ⟨⟨_, rfl⟩, .inl ⟨_, rfl, hJs⟩⟩


set_option maxRecDepth 100000 in
set_option maxHeartbeats 2000000 in
theorem turn1_nil (l B r : Nat) (a : Option Addr) (cap : Nat) (J : List (Fin 0) → World → Prop)
    (W : World) (hBc : W.cell? ⟨B, 0, none⟩ = some (.pointer (some ⟨r, 0, none⟩))) (hr0 : W.cell? ⟨r, 0, none⟩ = some (.slice a 0 cap)) (h0 : J [] W) :
    CallsIn Fence.wide 5 Try.prog 35 #[.func (.yield l) #[] #[], .pointer (some ⟨B, 0, none⟩)] W fun e W' => (∃ v, e = .returned v) ∧ J [] W' := by
  refine callsIn_of_wp Try.func35 rfl trivial ?_ rfl
  simp only [Try.ntmps35, List.size_toArray, List.length_cons, List.length_nil, Nat.reduceAdd, Nat.reduceSub, Array.replicate_succ, Array.replicate_zero, List.push_toArray, List.append_toArray, List.nil_append, List.cons_append]
  gi_wp2
  gi_loopw [9] (fun i wr => i = .int .i64 0 ∧ J [] wr) (fun _ _ => 0)
  case atStart => exact ⟨rfl, h0⟩
  case round =>
    obtain ⟨rfl, hJs⟩ := hrel
    gi_wp2
    go_end0
    exact ⟨⟨_, rfl⟩, hJs⟩

/-- The places in the order of a turn. -/
def places (n nx : Nat) : List (Fin n) := if h : 0 < n then upto (place n nx h) n else []

theorem turn_stops (B n₀ r nx n : Nat) (a : Option Addr) (cap : Nat) (hn1 : n ≤ 1000000) (hnx : nx ≤ n) (hB : B < n₀) (hr : r < n₀) (w : World) (hn₀ : n₀ ≤ w.heap.size)
    (hBc : w.cell? ⟨B, 0, none⟩ = some (.pointer (some ⟨r, 0, none⟩))) (hr0 : w.cell? ⟨r, 0, none⟩ = some (.slice a n cap)) (hr1 : w.cell? ⟨r, 1, none⟩ = some (.int .i64 nx)) :
    SeqStopsK Fence.wide 5 Try.prog 35 #[.pointer (some ⟨B, 0, none⟩)] (fun x : Fin n => #[Value.int .i64 (x.1 : Int)]) (Below n₀) (fun ys => ys = places n nx)
      (fun pre => pre <+: places n nx) n w := fun l J Jx W hW hJ _ hY h0 => by
  have c0 := (hW.cell (p := ⟨B, 0, none⟩) (by simp; omega)).trans hBc
  have c1 := (hW.cell (p := ⟨r, 0, none⟩) (by simp; omega)).trans hr0
  have c2 := (hW.cell (p := ⟨r, 1, none⟩) (by simp; omega)).trans hr1
  by_cases h : 0 < n
  · have hd : ∀ s A, J s A → J s A.drew := fun s A hs => hJ s A A.drew none hs ⟨rfl, rfl, rfl, Nat.le_refl _, fun _ _ _ => rfl⟩ (fun _ e => by cases e)
    refine (turn1_in l B n₀ r nx n _ a cap rfl h hn1 hnx hB hr J Jx hd hY W c0 c1 c2 h0).mono ?_
    rintro e W' ⟨he, ⟨ys, rfl, hj⟩ | ⟨pre, ⟨k, hk, rfl⟩, hj⟩⟩
    · exact ⟨he, .inl ⟨_, by unfold places; rw [dif_pos h], hj⟩⟩
    · refine ⟨he, .inr ⟨_, ?_, hj⟩⟩
      show _ <+: _
      unfold places; rw [dif_pos h]; unfold upto
      rw [List.prefix_iff_eq_take]
      simp only [List.length_map, List.length_range, ← List.map_take, List.take_range]
      rw [Nat.min_eq_left hk]
  · obtain rfl : n = 0 := by omega
    refine (turn1_nil l B r a cap J W c0 c1 h0).mono ?_
    rintro e W' ⟨he, hj⟩
    exact ⟨he, .inl ⟨[], rfl, hj⟩⟩

set_option maxHeartbeats 400000 in
theorem turn_any (r : Value) (hr : ∃ a, r = .pointer a) (w : World) :
    Calls Try.prog 26 #[r] w fun e w' => e = .returned (.func (.func 35) #[] #[.pointer (some ⟨w.heap.size, 0, none⟩)]) ∧ w' = w.alloc (.cells #[r] 24) := by
  obtain ⟨a, rfl⟩ := hr
  go_enter Try.func26, Try.ntmps26
  go_wp2
  go_ret
  exact ⟨rfl, rfl⟩

end Go.Proofs.Ytelebabegbkdnaa
