/- Contracts of slices.Index and slices.Contains at strings. Conditions: the slice reads as a list of strings. -/
import Derived.Test.YtelebabegbkdnaaProg
import Derived.Test.YtelebabegbkdnaaOwn
namespace Go.Proofs.Ytelebabegbkdnaa
open Go.RowKit

def sameS (a b : ByteArray) : Bool := a.toList == b.toList
theorem sameS_iff {a b : ByteArray} : sameS a b = true ↔ a = b := same_iff a b
theorem sameS_no {a b : ByteArray} : sameS a b = false ↔ a ≠ b := by rw [Bool.eq_false_iff, ne_eq, ne_eq, sameS_iff]
def idxOf (o : Option Nat) : Int := match o with | some i => (i : Int) | none => -1
def strEnc (s : ByteArray) : List Value := [.string s]
theorem strEnc_len (p : ByteArray) : (strEnc p).length = 1 := rfl
theorem strEnc_one (p : ByteArray) : ∀ u ∈ strEnc p, u.oneCell' = true := by simp [strEnc, Value.oneCell']

set_option maxHeartbeats 400000 in
theorem strIndex_any (w : World) (t : ByteArray) (v : Value) (L : List ByteArray) (hs : Slc strEnc 1 w v L) :
    Calls Try.prog 36 #[v, .string t] w fun e w' => 
      e = .returned (.int .i64 (idxOf (L.findIdx? (fun x => sameS t x)))) ∧ w = w' := by
  rcases hs with ⟨a, cap, rfl, _, rfl⟩ | ⟨g, off, cap, rfl, h1, h2, hc⟩
  · go_enter Try.func36, Try.ntmps36
    go_wp2
    go_loop [8] (fun s8 => s8 = .int .i64 0) (fun _ => 0)
    case atStart => exact rfl
    case round =>
      obtain rfl := hrel
      go_wp2
      go_ret
      exact ⟨rfl, rfl⟩
  · unfold maxLen at h2
    go_enter Try.func36, Try.ntmps36
    go_wp2
    go_loop [8] (fun s8 => ∃ k : Nat, k ≤ L.length ∧ s8 = .int .i64 k ∧ (L.take k).findIdx? (fun x => sameS t x) = none) (fun s8 => L.length - (intOf s8).toNat)
    case atStart => exact ⟨0, by omega, rfl, by simp⟩
    case round =>
      obtain ⟨k, hk, rfl, hno⟩ := hrel
      have hno' := Lib.hid hno; clear hno
      by_cases hlt : k < L.length
      · have c0 := hc k hlt 0 _ rfl
        clear hc
        simp only [Nat.add_zero, Nat.mul_one] at c0
        cases hq : sameS t L[k]
        · have hq' := Lib.hid hq
          unfold sameS at hq
          go_wp2
          go_round
          case rel => exact ⟨k + 1, by omega, by go_num, findP_no hlt hno'.out hq'.out⟩
          case measure => simp [intOf]; omega
        · have hq' := Lib.hid hq
          unfold sameS at hq
          go_wp2
          go_ret
          refine ⟨?_, rfl⟩
          rw [findP_yes hlt hno'.out hq'.out]; rfl
      · go_wp2
        go_ret
        have : k = L.length := by omega
        subst this
        refine ⟨?_, rfl⟩
        have := hno'.out
        rw [List.take_length] at this
        rw [this]; rfl

theorem any_find {α : Type} (p : α → Bool) (L : List α) : decide (0 ≤ idxOf (L.findIdx? p)) = L.any p := by
  rw [Bool.eq_iff_iff, decide_eq_true_iff, List.any_eq_true]
  cases h : L.findIdx? p with
  | none =>
    rw [List.findIdx?_eq_none_iff] at h
    constructor
    · intro h'; simp [idxOf] at h'
    · rintro ⟨x, hx, hp⟩; rw [h x hx] at hp; cases hp
  | some i =>
    rw [List.findIdx?_eq_some_iff_getElem] at h
    obtain ⟨hi, hp, _⟩ := h
    exact ⟨fun _ => ⟨L[i], List.getElem_mem _, hp⟩, fun _ => by simp [idxOf]⟩

set_option maxHeartbeats 400000 in
theorem strContains_any (w : World) (t : ByteArray) (v : Value) (L : List ByteArray) (hs : Slc strEnc 1 w v L) :
    Calls Try.prog 27 #[v, .string t] w fun e w' => 
      e = .returned (.bool (L.any (fun x => sameS t x))) ∧ w = w' := by
  have hix := strIndex_any w t v L hs
  clear hs
  generalize hz : idxOf (L.findIdx? (fun x => sameS t x)) = z at hix
  have hz' := Lib.hid hz; clear hz
  go_enter Try.func27, Try.ntmps27
  go_wp2_with (go_at_call 36; refine hix.mono ?_; clear hix; rintro e w' ⟨rfl, rfl⟩)
  go_ret
  refine ⟨?_, rfl⟩
  rw [← any_find, hz'.out]
  rfl

end Go.Proofs.Ytelebabegbkdnaa
