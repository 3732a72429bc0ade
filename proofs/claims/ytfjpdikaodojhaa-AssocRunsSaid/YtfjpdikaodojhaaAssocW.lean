/- Chapter 18: the head. Conditions: none. -/
import Derived.Test.YtfjpdikaodojhaaAssocV
namespace Go.Proofs.Ytfjpdikaodojhaa
open Go.RowKit
set_option linter.unusedVariables false

set_option maxRecDepth 100000 in
set_option maxHeartbeats 3200000 in
theorem head_any (w : World) : Calls Try.prog 8 #[] w fun e w' => e = .returned (.bool true) ∧ Below w.heap.size w w' := by
  have h1 := Lib.hid (fun (u : World) => show Calls Try.prog 23 #[.slice none 0 0, .int .u64 1, .agg #[.int .u32 0, .string ⟨#[97]⟩, .string ⟨#[]⟩]] u (TurnPost u ([tA false], 0)) from head1 ▸ start_any u (.slice none 0 0) [] 1 hdA (Slc.nil _ _ _) (by simp))
  have h2 := Lib.hid (fun (u : World) (v : Value) (h : Slc ascEnc 5 u v [tA false]) => show Calls Try.prog 23 #[v, .int .u64 1, .agg #[.int .u32 0, .string ⟨#[98]⟩, .string ⟨#[]⟩]] u (TurnPost u ([], 9)) from head2 ▸ start_any u v _ 1 hdB h (by simp))
  have h3 := Lib.hid (fun (u : World) (v : Value) (h : Slc ascEnc 5 u v [tA false]) => show Calls Try.prog 27 #[v, .int .u64 1, .agg #[.int .u32 0, .string ⟨#[97]⟩, .string ⟨#[]⟩]] u (TurnPost u ([tA true], 0)) from head3 ▸ suspend_any u v _ 1 hdA h (by simp))
  have h4 := Lib.hid (fun (u : World) (v : Value) (h : Slc ascEnc 5 u v [tA true]) => show Calls Try.prog 23 #[v, .int .u64 1, .agg #[.int .u32 0, .string ⟨#[98]⟩, .string ⟨#[]⟩]] u (TurnPost u ([tA true, tB], 0)) from head4 ▸ start_any u v _ 1 hdB h (by simp))
  have h5 := Lib.hid (fun (u : World) (v : Value) (h : Slc ascEnc 5 u v [tA true, tB]) => show Calls Try.prog 9 #[v, .int .u64 1] u (fun e w' => e = .returned (.tuple #[.agg #[.int .u32 0, .string ⟨#[98]⟩, .string ⟨#[]⟩], .bool true]) ∧ Below u.heap.size u w') from by have := active_any u v _ 1 h (by simp); rw [head5] at this; exact this)
  have h6 := Lib.hid (fun (u : World) (v : Value) (h : Slc ascEnc 5 u v [tA true, tB]) => show Calls Try.prog 15 #[v, .agg #[.int .u32 0, .string ⟨#[97]⟩, .string ⟨#[]⟩]] u (fun e w' => e = .returned (.int .i64 1) ∧ Below u.heap.size u w') from by have := count_any u v _ hdA h (by simp); rw [head6] at this; exact this)
  have qE := fun (u : World) => xid_eql u 0 0 ⟨#[98]⟩ ⟨#[]⟩ ⟨#[98]⟩ ⟨#[]⟩
  simp only [show ((0 : Int) == 0 && ((⟨#[98]⟩ : ByteArray) == ⟨#[98]⟩ && (⟨#[]⟩ : ByteArray) == ⟨#[]⟩)) = true by rw [bytes_self, bytes_self]; rfl] at qE
  have hT0 : Below w.heap.size w ((w.alloc (.cells #[.int .u32 0, .string ⟨#[97]⟩, .string ⟨#[]⟩] 26)).alloc (.cells #[.int .u32 0, .string ⟨#[98]⟩, .string ⟨#[]⟩] 26)) := ((Below.refl w.heap.size w).alloc (Nat.le_refl _) _).alloc (by simp) _
  have xa0 : Blk ((w.alloc (.cells #[.int .u32 0, .string ⟨#[97]⟩, .string ⟨#[]⟩] 26)).alloc (.cells #[.int .u32 0, .string ⟨#[98]⟩, .string ⟨#[]⟩] 26)) w.heap.size [.int .u32 0, .string ⟨#[97]⟩, .string ⟨#[]⟩] := (Blk.new w [.int .u32 0, .string ⟨#[97]⟩, .string ⟨#[]⟩] 26).alloc _
  have xb0 : Blk ((w.alloc (.cells #[.int .u32 0, .string ⟨#[97]⟩, .string ⟨#[]⟩] 26)).alloc (.cells #[.int .u32 0, .string ⟨#[98]⟩, .string ⟨#[]⟩] 26)) (w.heap.size + 1) [.int .u32 0, .string ⟨#[98]⟩, .string ⟨#[]⟩] := by have := Blk.new (w.alloc (.cells #[.int .u32 0, .string ⟨#[97]⟩, .string ⟨#[]⟩] 26)) [.int .u32 0, .string ⟨#[98]⟩, .string ⟨#[]⟩] 26; simpa using this
  have d0 := xa0.at 0 rfl
  have d1 := xa0.at 1 rfl
  have d2 := xa0.at 2 rfl
  have d3 := xb0.at 0 rfl
  have d4 := xb0.at 1 rfl
  have d5 := xb0.at 2 rfl
  go_enter Try.func8, Try.ntmps8
  go_wp2_with (first | (go_at_call 23; (with_reducible refine (h1.out _).mono ?_); rintro e w1 ⟨r1, rfl, hO1, hB1⟩; have xa1 := xa0.pure hB1; have xb1 := xb0.pure hB1; have hT1 := hT0.trans (hB1.mono hT0.size); clear d0 d1 d2 d3 d4 d5; have d0 := xa1.at 0 rfl; have d1 := xa1.at 1 rfl; have d2 := xa1.at 2 rfl; have d3 := xb1.at 0 rfl; have d4 := xb1.at 1 rfl; have d5 := xb1.at 2 rfl; have hs1 := hO1.slc ascEnc_len) | (go_at_call 23; (with_reducible refine (h2.out _ _ hs1).mono ?_); rintro e w2 ⟨r2, rfl, hO2, hB2⟩; have xa2 := xa1.pure hB2; have xb2 := xb1.pure hB2; have hT2 := hT1.trans (hB2.mono hT1.size); clear d0 d1 d2 d3 d4 d5; have d0 := xa2.at 0 rfl; have d1 := xa2.at 1 rfl; have d2 := xa2.at 2 rfl; have d3 := xb2.at 0 rfl; have d4 := xb2.at 1 rfl; have d5 := xb2.at 2 rfl; have hs2 := hs1.pure hB2; clear hs1) | (go_at_call 27; (with_reducible refine (h3.out _ _ hs2).mono ?_); rintro e w3 ⟨r3, rfl, hO3, hB3⟩; have xa3 := xa2.pure hB3; have xb3 := xb2.pure hB3; have hT3 := hT2.trans (hB3.mono hT2.size); clear d0 d1 d2 d3 d4 d5; have d0 := xa3.at 0 rfl; have d1 := xa3.at 1 rfl; have d2 := xa3.at 2 rfl; have d3 := xb3.at 0 rfl; have d4 := xb3.at 1 rfl; have d5 := xb3.at 2 rfl; have hs3 := hO3.slc ascEnc_len) | (go_at_call 23; (with_reducible refine (h4.out _ _ hs3).mono ?_); rintro e w4 ⟨r4, rfl, hO4, hB4⟩; have xa4 := xa3.pure hB4; have xb4 := xb3.pure hB4; have hT4 := hT3.trans (hB4.mono hT3.size); clear d0 d1 d2 d3 d4 d5; have d0 := xa4.at 0 rfl; have d1 := xa4.at 1 rfl; have d2 := xa4.at 2 rfl; have d3 := xb4.at 0 rfl; have d4 := xb4.at 1 rfl; have d5 := xb4.at 2 rfl; have hs4 := hO4.slc ascEnc_len; obtain ⟨ra, rc, rfl⟩ : ∃ a c, r4 = .slice a 2 c := own_len hO4; clear hs3) | (go_at_call 9; (with_reducible refine (h5.out _ _ hs4).mono ?_); rintro e w5 ⟨rfl, hB5⟩; have xa5 := (xa4.pure hB5).alloc (.cells #[.int .u32 0, .string ⟨#[98]⟩, .string ⟨#[]⟩] 26); have xb5 := (xb4.pure hB5).alloc (.cells #[.int .u32 0, .string ⟨#[98]⟩, .string ⟨#[]⟩] 26); have hT5 := (hT4.trans (hB5.mono hT4.size)).alloc (hT4.trans (hB5.mono hT4.size)).size (.cells #[.int .u32 0, .string ⟨#[98]⟩, .string ⟨#[]⟩] 26); have hs5 := (hs4.pure hB5).pure ((Below.refl _ _).alloc (Nat.le_refl _) (.cells #[.int .u32 0, .string ⟨#[98]⟩, .string ⟨#[]⟩] 26)); clear d0 d1 d2 d3 d4 d5 hs4; have d0 := xa5.at 0 rfl; have d1 := xa5.at 1 rfl; have d2 := xa5.at 2 rfl; have d3 := xb5.at 0 rfl; have d4 := xb5.at 1 rfl; have d5 := xb5.at 2 rfl) | (go_at_call 15; (with_reducible refine (h6.out _ _ hs5).mono ?_); rintro e w6 ⟨rfl, hB6⟩; have hT6 := hT5.trans (hB6.mono hT5.size)))
  go_ret
  exact ⟨rfl, hT6⟩
end Go.Proofs.Ytfjpdikaodojhaa
