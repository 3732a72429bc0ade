/- Package assoc: set, Leave. Conditions: the row reads as associations; at most a million. -/
import Derived.Test.YtcelpincmpjhkaaAssocG
namespace Go.Proofs.Ytcelpincmpjhkaa
open Go.RowKit
set_option linter.unusedVariables false

/-- An association with another word. -/
def Asc.susp (a : Asc) (b : Bool) : Asc := (a.1, a.2.1, b)

set_option maxRecDepth 100000 in
set_option maxHeartbeats 1600000 in
theorem set_any (w : World) (v : Value) (L : List Asc) (k : Nat) (b : Bool) (hs : Slc ascEnc 5 w v L) (hL : L.length ≤ 1000000) (hk : k < L.length) :
    Calls Try.prog 106 #[v, .int .i64 k, .bool b] w fun e w' => ∃ r, e = .returned r ∧ Own w.heap.size 57 5 ascEnc w' r (L.set k (L[k].susp b)) ∧ Below w.heap.size w w' := by
  have hcl := Lib.hid (asc_clone w v L hs hL)
  obtain ⟨a, n, cap, rfl⟩ := hs.shape3
  clear hs
  go_enter Try.func106, Try.ntmps106
  go_wp2_with (go_at_call 101; refine hcl.out.mono ?_; rintro e w1 ⟨r, rfl, hO, hB⟩; obtain ⟨g, c, rfl, hg, hgl⟩ := hO.shape (fun e => by rw [e] at hk; simp at hk); have c4 := (asc_cells (hO.slc ascEnc_len) hk).2.2.2.2; have z4 := hO.frozen (k * 5 + 4); simp only [Nat.zero_add] at c4)
  go_ret
  refine ⟨_, rfl, ?_, below_set hB hg _ _⟩
  have := hO.set ascEnc_len k hk 4 (.bool b) (L[k].susp b) (by omega) rfl
  simpa using this

set_option maxRecDepth 100000 in
set_option maxHeartbeats 1600000 in
theorem leave_any (w : World) (v : Value) (L : List Asc) (s : Int) (hs : Slc ascEnc 5 w v L) (hL : L.length ≤ 1000000) :
    Calls Try.prog 96 #[v, .int .u64 s] w fun e w' => ∃ r, e = .returned (.tuple #[r, .int .i64 (mayN L s (0, ⟨#[120]⟩, ⟨#[]⟩))]) ∧ Own w.heap.size 57 5 ascEnc w' r (if mayN L s (0, ⟨#[120]⟩, ⟨#[]⟩) = 0 then L.filter (fun a => a.1 != s) else []) ∧ Below w.heap.size w w' := by
  have hm := may_any w v L s (0, ⟨#[120]⟩, ⟨#[]⟩) hs hL
  obtain ⟨c, hc⟩ : ∃ c, c = mayN L s (0, ⟨#[120]⟩, ⟨#[]⟩) := ⟨_, rfl⟩
  rw [← hc] at hm ⊢
  clear hc
  have hm' := Lib.hid hm; clear hm
  by_cases hz : c = 0
  · subst hz
    have hwo := Lib.hid (fun (w1 : World) (h : Below w.heap.size w w1) => without_ses w1 v L s (hs.pure h) hL)
    obtain ⟨a, n, cap, rfl⟩ := hs.shape3
    clear hs
    go_enter Try.func96, Try.ntmps96
    go_wp2_with (first | (go_at_call 103; refine hm'.out.mono ?_; rintro e w1 ⟨rfl, hB1⟩) | (go_at_call 119; refine (hwo.out _ hB1).mono ?_; rintro e w2 ⟨r, rfl, hO, hB2⟩))
    go_ret2
    exact ⟨r, rfl, hO.rebase (fun k hk => Nat.le_trans hB1.size (hO.ge hk)), hB1.trans (hB2.mono hB1.size)⟩
  · have hzb : (c != 0) = true := bne_iff_ne.2 hz
    rw [if_neg hz]
    obtain ⟨a, n, cap, rfl⟩ := hs.shape3
    clear hs hz
    go_enter Try.func96, Try.ntmps96
    go_wp2_with (go_at_call 103; refine hm'.out.mono ?_; rintro e w1 ⟨rfl, hB1⟩)
    go_ret2
    exact ⟨_, rfl, Own.nil, hB1⟩
end Go.Proofs.Ytcelpincmpjhkaa
