/- The law file's head, walked: it returns true. Conditions: none. -/
import Derived.Test.YtelebabegbkdnaaCreditF
namespace Go.Proofs.Ytelebabegbkdnaa
open Go.RowKit

def abc : List ByteArray := [sA, sB, sC]
def addedTo (k : Nat) : List Sub := (abc.take k).map (fun s => (s, 0))

def abcAt (k : Nat) : ByteArray := abc.getD k ⟨#[]⟩
theorem abc_facts : ∀ k, k < 3 → 0 < (abcAt k).size ∧ (abcAt k).size ≤ 40 ∧ findS (addedTo k) (abcAt k) = none ∧ addedTo k ++ [(abcAt k, 0)] = addedTo (k + 1) ∧ (addedTo k).length ≤ 1000000 := by decide +kernel

def st (a b c : Int) : List Sub := [(sA, a), (sB, b), (sC, c)]
theorem st0 : addedTo 3 = st 0 0 0 := by decide +kernel
theorem fA (a b c : Int) : findS (st a b c) ⟨#[97]⟩ = some 0 := by
  unfold findS st
  rw [List.findIdx?_cons, show sameS sA ⟨#[97]⟩ = true by decide +kernel]; rfl
theorem fC (a b c : Int) : findS (st a b c) ⟨#[99]⟩ = some 2 := by
  unfold findS st
  rw [List.findIdx?_cons, show sameS sA ⟨#[99]⟩ = false by decide +kernel, List.findIdx?_cons, show sameS sB ⟨#[99]⟩ = false by decide +kernel, List.findIdx?_cons, show sameS sC ⟨#[99]⟩ = true by decide +kernel]; rfl
theorem st_ok {a b c : Int} (h : (0 ≤ a ∧ a ≤ 4294967295) ∧ (0 ≤ b ∧ b ≤ 4294967295) ∧ (0 ≤ c ∧ c ≤ 4294967295)) : ∀ p ∈ st a b c, 0 ≤ p.2 ∧ p.2 ≤ 4294967295 := by
  intro p hp
  simp only [st, List.mem_cons, List.not_mem_nil, or_false] at hp
  rcases hp with rfl | rfl | rfl
  · exact h.1
  · exact h.2.1
  · exact h.2.2
theorem t1 : turnOf (st 2 0 2) 0 abc = some ⟨0, by decide⟩ := by decide +kernel
theorem t2 : turnOf (st 1 0 2) 1 abc = some ⟨2, by decide⟩ := by decide +kernel
theorem t3 : turnOf (st 1 0 1) 3 abc = some ⟨0, by decide⟩ := by decide +kernel

set_option maxRecDepth 100000 in
set_option maxHeartbeats 1000000 in
theorem head_any (w : World) : Calls Try.prog 7 #[] w fun e w' => e = .returned (.bool true) ∧ Below w.heap.size w w' := by
  go_enter Try.func7, Try.ntmps7
  go_wp2_with (go_at_call 8; refine (newX _).mono ?_; rintro e w1 ⟨rfl, hB1, hR1, hz1⟩)
  obtain ⟨w2, hw2⟩ : ∃ w2, w1.alloc (.cells #[.string sA, .string sB, .string sC] 9) = w2 := ⟨_, rfl⟩
  have hm2 : Slc strEnc 1 w2 (.slice (some ⟨w1.heap.size, 0, none⟩) 3 3) abc := by
    refine .inr ⟨w1.heap.size, 0, 3, rfl, by simp [abc], by unfold maxLen; omega, fun i hi j u hu => ?_⟩
    rw [← hw2, (Blk.new w1 [.string sA, .string sB, .string sC] _).cell]
    match i, hi, j, hu with
    | 0, _, 0, hu => exact hu
    | 1, _, 0, hu => exact hu
    | 2, _, 0, hu => exact hu
  have hz2 : w1.heap.size < w2.heap.size := by rw [← hw2]; simp
  have hB2 : Below w.heap.size w w2 := by rw [← hw2]; exact hB1.alloc hB1.size _
  have hR2 : RndX (fun k => k < w.heap.size ∨ k = w1.heap.size) w2 w.heap.size [] 0 := by
    rw [← hw2]; exact (hR1.more (fun k hk hl => hk.elim id (fun h => by omega))).pure ((Below.refl _ _).alloc (Nat.le_refl _) _)
  have hB1s := hB1.size
  have hX2 : ∀ k, (k < w.heap.size ∨ k = w1.heap.size) → k < w2.heap.size := by intro k hk; rcases hk with hk | hk <;> omega
  change Code.wp _ _ _ _ (w1.alloc (.cells #[.string sA, .string sB, .string sC] 9))
  rw [hw2]
  clear hw2 hR1 hB1
  go_loopw [3] (fun s3 wr => ∃ k : Nat, k ≤ 3 ∧ s3 = .int .i64 k ∧ RndX (fun k => k < w.heap.size ∨ k = w1.heap.size) wr w.heap.size (addedTo k) 0 ∧ Kept (fun k => k < w.heap.size ∨ k = w1.heap.size) w2 wr) (fun s3 _ => 3 - (intOf s3).toNat)
  case atStart => exact ⟨0, by omega, rfl, hR2, Upd.refl _ _⟩
  case round =>
    obtain ⟨k, hk, rfl, hR, hK⟩ := hrel
    have hmr := hm2.upd hK (by simp [Value.ownBlock])
    have hsz := hK.size
    have hX : ∀ k, (k < w.heap.size ∨ k = w1.heap.size) → k < wr.heap.size := by intro k hk; have := hX2 k hk; omega
    by_cases hlt : k < 3
    · have hc0 := hmr.get k (by simpa [abc] using hlt) 0 (.string (abcAt k)) (by unfold abcAt; rw [List.getD_eq_getElem?_getD, List.getElem?_eq_getElem (l := abc) (i := k) (by simpa [abc] using hlt)]; rfl)
      simp only [Nat.zero_add, Nat.mul_one, Nat.add_zero] at hc0
      obtain ⟨h5, h6, h7, h8, h9⟩ := abc_facts k hlt
      have h8' := Lib.hid h8; clear h8
      go_wp2_with (go_at_call 9; refine (addX hR hX h5 h6 h7 h9).mono ?_; rintro e w3 ⟨rfl, hR3, hK3⟩)
      go_roundw
      case rel => exact ⟨k + 1, by omega, by go_num, by rw [← h8'.out]; exact hR3, hK.trans hK3 (fun _ h _ => h)⟩
      case measure => simp [intOf]; omega
    · obtain rfl : k = 3 := by omega
      clear hR2 hm2 hX2
      rw [st0] at hR
      have hBr : Below w.heap.size w wr := hB2.trans (hK.below (Nat.le_of_lt (by omega)) (fun k hk => by omega))
      clear hK hsz
      go_wp2_with fail
      refine (giveX (i := 0) hR (by decide) (fA _ _ _) (by decide) (by decide) (by decide) (by decide)).mono ?_
      rintro e w3 ⟨rfl, hR3, hK3⟩
      have hR3 : RndX (fun k => k < w.heap.size ∨ k = w1.heap.size) w3 w.heap.size (st 2 0 0) 0 := hR3
      have hm3 := hmr.upd hK3 (by simp [Value.ownBlock])
      have hB3 : Below w.heap.size w w3 := hBr.trans (hK3.below (by have := hBr.size; omega) (fun k hk => by omega))
      clear hR hmr hK3 hBr
      go_wp2_with fail
      refine (giveX (i := 2) hR3 (by decide) (fC _ _ _) (by decide) (by decide) (by decide) (by decide)).mono ?_
      rintro e w4 ⟨rfl, hR4, hK4⟩
      have hR4 : RndX (fun k => k < w.heap.size ∨ k = w1.heap.size) w4 w.heap.size (st 2 0 2) 0 := hR4
      have hm4 := hm3.upd hK4 (by simp [Value.ownBlock])
      have hB4 : Below w.heap.size w w4 := hB3.trans (hK4.below (by have := hB3.size; omega) (fun k hk => by omega))
      clear hR3 hm3 hK4 hB3
      go_wp2_with fail
      refine (turnX_some hR4 hm4 (by decide) (by decide) (st_ok (by decide)) t1).mono ?_
      rintro e w5 ⟨he, hR5, hK5⟩
      have he : e = .returned (.tuple #[.string ⟨#[97]⟩, .bool true]) := he
      subst he
      have hR5 : RndX (fun k => k < w.heap.size ∨ k = w1.heap.size) w5 w.heap.size (st 1 0 2) 1 := hR5
      have hm5 := hm4.upd hK5 (by simp [Value.ownBlock])
      have hB5 : Below w.heap.size w w5 := hB4.trans (hK5.below (by have := hB4.size; omega) (fun k hk => by omega))
      clear hR4 hm4 hK5 hB4
      go_wp2_with fail
      refine (turnX_some hR5 hm5 (by decide) (by decide) (st_ok (by decide)) t2).mono ?_
      rintro e w6 ⟨he, hR6, hK6⟩
      have he : e = .returned (.tuple #[.string ⟨#[99]⟩, .bool true]) := he
      subst he
      have hR6 : RndX (fun k => k < w.heap.size ∨ k = w1.heap.size) w6 w.heap.size (st 1 0 1) 3 := hR6
      have hm6 := hm5.upd hK6 (by simp [Value.ownBlock])
      have hB6 : Below w.heap.size w w6 := hB5.trans (hK6.below (by have := hB5.size; omega) (fun k hk => by omega))
      clear hR5 hm5 hK6 hB5
      go_wp2_with fail
      refine (turnX_some hR6 hm6 (by decide) (by decide) (st_ok (by decide)) t3).mono ?_
      rintro e w7 ⟨he, hR7, hK7⟩
      have he : e = .returned (.tuple #[.string ⟨#[97]⟩, .bool true]) := he
      subst he
      have hR7 : RndX (fun k => k < w.heap.size ∨ k = w1.heap.size) w7 w.heap.size (st 0 0 1) 1 := hR7
      have hB7 : Below w.heap.size w w7 := hB6.trans (hK7.below (by have := hB6.size; omega) (fun k hk => by omega))
      clear hR6 hm6 hK7 hB6
      go_wp2_with fail
      refine (creditX (i := 0) hR7 (by decide) (fA _ _ _)).mono ?_
      rintro e w8 ⟨he, hB8⟩
      have he : e = .returned (.tuple #[.int .u32 0, .int .i64 0]) := he
      subst he
      have hR8 := hR7.pure hB8
      have hB8' := hB7.trans (hB8.mono hB7.size)
      clear hR7 hB8 hB7
      go_wp2_with fail
      refine (addX_there hR8 (by decide) (by decide) (fA _ _ _)).mono ?_
      rintro e w9 ⟨rfl, hB9⟩
      go_wp2_with fail
      go_ret
      exact ⟨rfl, hB8'.trans (hB9.mono hB8'.size)⟩
end Go.Proofs.Ytelebabegbkdnaa
