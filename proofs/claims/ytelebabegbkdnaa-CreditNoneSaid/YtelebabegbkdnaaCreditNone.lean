/- A round that is none: each call answers ErrNil and has nothing; the law CreditNone. Conditions: none. -/
import Derived.Test.YtelebabegbkdnaaCreditG
import Derived.ProofKit
import Derived.OpenShut
namespace Go.Proofs.Ytelebabegbkdnaa
open Go.RowKit

/-- At a there is no round that was made. -/
def NotMade (w : World) (a : Option Addr) : Prop := a = none ∨ ∃ b, a = some ⟨b, 0, none⟩ ∧ w.cell? ⟨b, 2, none⟩ = some (.bool false)
theorem NotMade.pure {w w' : World} {a : Option Addr} (h : NotMade w a) (hb : Below w.heap.size w w') : NotMade w' a := by
  rcases h with h | ⟨b, h, hc⟩
  · exact .inl h
  · exact .inr ⟨b, h, (hb.cell (p := ⟨b, 2, none⟩) (World.block_lt_of_cell? w _ hc)).trans hc⟩
theorem there_not (w : World) (a : Option Addr) (h : NotMade w a) :
    Calls Try.prog 22 #[.pointer a] w fun e w' => e = .returned (.bool false) ∧ w = w' := by
  rcases h with rfl | ⟨b, rfl, hc⟩
  · exact there_nil w
  · exact there_ok w b false hc

set_option maxHeartbeats 400000 in
theorem none_add (w : World) (a : Option Addr) (t : ByteArray) (h : NotMade w a) :
    Calls Try.prog 9 #[.pointer a, .string t] w fun e w' => e = .returned (.int .i64 1) ∧ w = w' := by
  go_enter Try.func9, Try.ntmps9
  go_wp2_with (go_at_call 22; refine (there_not _ _ h).mono ?_; rintro e w' ⟨rfl, rfl⟩)
  go_ret
  exact ⟨rfl, rfl⟩

set_option maxHeartbeats 400000 in
theorem none_remove (w : World) (a : Option Addr) (t : ByteArray) (h : NotMade w a) :
    Calls Try.prog 13 #[.pointer a, .string t] w fun e w' => e = .returned (.int .i64 1) ∧ w = w' := by
  go_enter Try.func13, Try.ntmps13
  go_wp2_with (go_at_call 22; refine (there_not _ _ h).mono ?_; rintro e w' ⟨rfl, rfl⟩)
  go_ret
  exact ⟨rfl, rfl⟩

set_option maxHeartbeats 400000 in
theorem none_on (w : World) (a : Option Addr) (t : ByteArray) (n : Int) (k : Fn) (cs : Array Value) (h : NotMade w a) :
    Calls Try.prog 24 #[.pointer a, .string t, .int .u32 n, .func k #[] cs] w fun e w' => e = .returned (.int .i64 1) ∧ w = w' := by
  go_enter Try.func24, Try.ntmps24
  go_wp2_with (go_at_call 22; refine (there_not _ _ h).mono ?_; rintro e w' ⟨rfl, rfl⟩)
  go_ret
  exact ⟨rfl, rfl⟩

set_option maxHeartbeats 400000 in
theorem none_tags (w : World) (a : Option Addr)  (h : NotMade w a) :
    Calls Try.prog 19 #[.pointer a] w fun e w' => e = .returned (.slice none 0 0) ∧ w = w' := by
  go_enter Try.func19, Try.ntmps19
  go_wp2_with (go_at_call 22; refine (there_not _ _ h).mono ?_; rintro e w' ⟨rfl, rfl⟩)
  go_ret
  exact ⟨rfl, rfl⟩

set_option maxHeartbeats 400000 in
theorem none_give (w : World) (a : Option Addr) (t : ByteArray) (n : Int) (h : NotMade w a) :
    Calls Try.prog 10 #[.pointer a, .string t, .int .u32 n] w fun e w' => e = .returned (.int .i64 1) ∧ w = w' := by
  go_enter Try.func10, Try.ntmps10
  go_wp2_with (go_at_call 24; refine (none_on _ _ _ _ _ _ h).mono ?_; rintro e w' ⟨rfl, rfl⟩)
  go_ret
  exact ⟨rfl, rfl⟩

set_option maxHeartbeats 400000 in
theorem none_stop (w : World) (a : Option Addr) (t : ByteArray) (h : NotMade w a) :
    Calls Try.prog 15 #[.pointer a, .string t] w fun e w' => e = .returned (.int .i64 1) ∧ w = w' := by
  go_enter Try.func15, Try.ntmps15
  go_wp2_with (go_at_call 24; refine (none_on _ _ _ _ _ _ h).mono ?_; rintro e w' ⟨rfl, rfl⟩)
  go_ret
  exact ⟨rfl, rfl⟩

set_option maxHeartbeats 400000 in
theorem none_credit (w : World) (a : Option Addr) (t : ByteArray) (h : NotMade w a) :
    Calls Try.prog 20 #[.pointer a, .string t] w fun e w' => e = .returned (.tuple #[.int .u32 0, .int .i64 1]) ∧ Below w.heap.size w w' := by
  have hB1 := (Below.refl w.heap.size w).alloc (Nat.le_refl _) (.cells #[.int .u32 0] 30)
  have h1 := h.pure hB1
  go_enter Try.func20, Try.ntmps20
  go_wp2_with (go_at_call 24; refine (none_on _ _ _ _ _ _ h1).mono ?_; rintro e w' ⟨rfl, rfl⟩)
  go_ret2
  exact ⟨rfl, hB1⟩

set_option maxHeartbeats 400000 in
theorem none_turn (w : World) (a : Option Addr) (ma : Option Addr) (n c : Nat) (h : NotMade w a) :
    Calls Try.prog 11 #[.pointer a, .slice ma n c] w fun e w' => e = .returned (.tuple #[.string ⟨#[]⟩, .bool false]) ∧ Below w.heap.size w w' := by
  have hB1 := ((((Below.refl w.heap.size w).alloc (Nat.le_refl _) (.cells #[.pointer a] 24)).alloc (by simp) (.cells #[.slice ma n c] 26)).alloc (by simp; omega) (.cells #[.string ⟨#[]⟩] 9)).alloc (by simp; omega) (.cells #[.bool false] 4)
  have h1 := h.pure hB1
  go_enter Try.func11, Try.ntmps11
  go_wp2_with (go_at_call 22; refine (there_not _ _ h1).mono ?_; rintro e w' ⟨rfl, rfl⟩)
  refine bodyPost_ret (v := .tuple #[.string ⟨#[]⟩, .bool false]) (by simp [results, Try.results11, go_sem]) rfl ⟨rfl, ?_⟩
  exact hB1

set_option maxRecDepth 100000 in
set_option maxHeartbeats 2000000 in
theorem none_law (w : World) (t : ByteArray) (n : Int) : Calls Try.prog 6 #[.string t, .int .u32 n] w fun e w' => e = .returned (.bool true) ∧ Below w.heap.size w w' := by
  go_enter Try.func6, Try.ntmps6
  go_wp2_with fail
  obtain ⟨w2, hw2⟩ : ∃ w2, (w.alloc (.cells #[.slice none 0 0, .int .i64 0, .bool false] 54)).alloc (.cells #[.pointer none, .pointer (some ⟨w.heap.size, 0, none⟩)] 24) = w2 := ⟨_, rfl⟩
  have hB2 : Below w.heap.size w w2 := by rw [← hw2]; exact ((Below.refl _ _).alloc (Nat.le_refl _) _).alloc (by simp) _
  have b1 : Blk w2 w.heap.size [.slice none 0 0, .int .i64 0, .bool false] := by rw [← hw2]; exact (Blk.new w [.slice none 0 0, .int .i64 0, .bool false] _).alloc _
  have b2 : Blk w2 (w.heap.size + 1) [.pointer none, .pointer (some ⟨w.heap.size, 0, none⟩)] := by
    rw [← hw2]; have := Blk.new (w.alloc (.cells #[.slice none 0 0, .int .i64 0, .bool false] 54)) [.pointer none, .pointer (some ⟨w.heap.size, 0, none⟩)] 24; simpa using this
  rw [hw2]
  clear hw2
  go_loopw [7] (fun s7 wr => ∃ k : Nat, k ≤ 2 ∧ s7 = .int .i64 k ∧ Below w2.heap.size w2 wr) (fun s7 _ => 2 - (intOf s7).toNat)
  case atStart => exact ⟨0, by omega, rfl, Below.refl _ _⟩
  case round =>
    obtain ⟨k, hk, rfl, hB⟩ := hrel
    have hBB := hB2.trans (hB.mono hB2.size)
    by_cases hlt : k < 2
    · obtain ⟨a, ha, hn⟩ : ∃ a, wr.cell? ⟨w.heap.size + 1, k, none⟩ = some (.pointer a) ∧ NotMade wr a := by
        match k, hlt with
        | 0, _ => exact ⟨none, (b2.pure hB).cell 0, .inl rfl⟩
        | 1, _ => exact ⟨some ⟨w.heap.size, 0, none⟩, (b2.pure hB).cell 1, .inr ⟨_, rfl, (b1.pure hB).cell 2⟩⟩
      go_wp2_with fail
      refine (none_credit _ _ _ hn).mono ?_
      rintro e w3 ⟨rfl, hB3⟩
      have hn3 := hn.pure (hB3.alloc hB3.size (.cells #[.string t] 9))
      have hB3' : Below w2.heap.size w2 (w3.alloc (.cells #[.string t] 9)) := (hB.trans (hB3.mono hB.size)).alloc (Nat.le_trans hB.size hB3.size) _
      clear ha hn hB3 hB
      go_wp2_with fail
      refine (none_turn _ _ _ _ _ hn3).mono ?_
      rintro e w4 ⟨rfl, hB4⟩
      have hn4 := hn3.pure hB4
      have hB4' := hB3'.trans (hB4.mono hB3'.size)
      clear hn3 hB4 hB3' hBB
      go_wp2_with fail
      refine (none_add _ _ _ hn4).mono ?_
      rintro e w' ⟨rfl, rfl⟩
      go_wp2_with fail
      refine (none_remove _ _ _ hn4).mono ?_
      rintro e w' ⟨rfl, rfl⟩
      go_wp2_with fail
      refine (none_give _ _ _ _ hn4).mono ?_
      rintro e w' ⟨rfl, rfl⟩
      go_wp2_with fail
      refine (none_stop _ _ _ hn4).mono ?_
      rintro e w' ⟨rfl, rfl⟩
      go_wp2_with fail
      refine (none_tags _ _ hn4).mono ?_
      rintro e w' ⟨rfl, rfl⟩
      go_wp2_with fail
      go_roundw
      case rel => exact ⟨k + 1, by omega, by go_num, hB4'⟩
      case measure => simp [intOf]; omega
    · go_wp2_with (go_at_call 7; refine (head_any _).mono ?_; rintro e w8 ⟨rfl, hB8⟩)
      go_ret
      exact ⟨rfl, hBB.trans (hB8.mono hBB.size)⟩

open Go.ChangeShapes Go.WideShapes Go.ChangeAt in
theorem none_args {H : Type} (enc : TypeId × Value → H) (W : World) {base : Nat} (v0 : Value) (d0 : DataW H) (p0 : List MemPlace) (v1 : Value) (d1 : DataW H) (p1 : List MemPlace)
    (h0 : DataW.Trod enc Try.prog W 0 (fun _ => true) true 9 v0 d0 p0) (h1 : DataW.Trod enc Try.prog W 0 (fun _ => true) true 30 v1 d1 p1)
    (k0 : Value.okWide Try.prog W .any base 9 v0) (k1 : Value.okWide Try.prog W .any base 30 v1) {S : Prop} (_ : S) :
    Calls Try.prog 6 #[v0, v1] W fun e w' => e = .returned (.bool true) ∧ Below W.heap.size W w' := by
  obtain ⟨s, rfl, rfl, rfl, hs⟩ := Go.ChangeMaps.open_string Try.underlying9 k0 h0
  obtain ⟨b, rfl, rfl, rfl, wb⟩ := open_int Try.underlying30 k1 h1
  exact none_law W s b

end Go.Proofs.Ytelebabegbkdnaa
