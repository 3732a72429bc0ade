/- DiskNone: the law's walk. Conditions: none. Written by gen_dknone.py. -/
import Derived.Test.YtgpdbifgbabnnaaDkN
import Derived.Test.YtgpdbifgbabnnaaDkY
namespace Go.Proofs.Ytgpdbifgbabnnaa
open Go.RowKit Go.Maps
set_option linter.unusedVariables false
set_option maxRecDepth 100000 in
set_option maxHeartbeats 6400000 in
theorem diskNone_walk (hLi : ListOk) (w : World) (x : ByteArray) (n : Int) : Calls Try.prog 7 #[.string x, .int .i64 n] w fun e w' => e = .returned (.bool true) ∧ Below w.heap.size w w' := by
  have hhead := head_any hLi
  have hhead' := Lib.hid hhead; clear hhead
  have e1 : (w.alloc (.cells #[.map none, .int .i64 0, .int .i64 0, .bool false] 50)).heap.size = w.heap.size + 1 := by simp
  have hT0 : Below w.heap.size w ((w.alloc (.cells #[.map none, .int .i64 0, .int .i64 0, .bool false] 50)).alloc (.cells #[.pointer none, .pointer (some ⟨w.heap.size, 0, none⟩)] 23)) := ((Below.refl _ w).alloc (Nat.le_refl _) _).alloc (by simp) _
  have hA : Blk ((w.alloc (.cells #[.map none, .int .i64 0, .int .i64 0, .bool false] 50)).alloc (.cells #[.pointer none, .pointer (some ⟨w.heap.size, 0, none⟩)] 23)) (w.heap.size + 1) [.pointer none, .pointer (some ⟨w.heap.size, 0, none⟩)] := by rw [← e1]; exact Blk.new _ [.pointer none, .pointer (some ⟨w.heap.size, 0, none⟩)] _
  have hE : Blk ((w.alloc (.cells #[.map none, .int .i64 0, .int .i64 0, .bool false] 50)).alloc (.cells #[.pointer none, .pointer (some ⟨w.heap.size, 0, none⟩)] 23)) w.heap.size [.map none, .int .i64 0, .int .i64 0, .bool false] := (Blk.new w [.map none, .int .i64 0, .int .i64 0, .bool false] _).alloc _
  have hA' := Lib.hid hA; clear hA
  have hE' := Lib.hid hE; clear hE
  have hT' := Lib.hid hT0; clear hT0
  go_enter Try.func7, Try.ntmps7
  go_wp2
  go_loopw [7] (fun s7 wr => ∃ k : Nat, k ≤ 2 ∧ s7 = .int .i64 k ∧ Below w.heap.size w wr ∧ Blk wr (w.heap.size + 1) [.pointer none, .pointer (some ⟨w.heap.size, 0, none⟩)] ∧ Blk wr w.heap.size [.map none, .int .i64 0, .int .i64 0, .bool false])
    (fun s7 _ => 2 - (intOf s7).toNat)
  case atStart => exact ⟨0, by omega, rfl, hT'.out, hA'.out, hE'.out⟩
  case round =>
    obtain ⟨k, hk, rfl, hT, hA, hE⟩ := hrel
    by_cases hlt : k < 2
    · have hp : ∃ q, wr.cell? ⟨w.heap.size + 1, k, none⟩ = some (.pointer q) ∧ NoD wr (.pointer q) := by
        have hk2 : k = 0 ∨ k = 1 := by omega
        rcases hk2 with rfl | rfl
        · exact ⟨none, hA.at 0 rfl, .inl rfl⟩
        · exact ⟨_, hA.at 1 rfl, .inr ⟨_, rfl, hE.at 0 rfl⟩⟩
      obtain ⟨q, hc, h0⟩ := hp
      have Ba : Below wr.heap.size wr (wr.alloc (.cells #[.int .i64 n] 3)) := (Below.refl _ wr).alloc (Nat.le_refl _) _
      have h1 := h0.pure Ba
      have hAA := Lib.hid hA; have hEE := Lib.hid hE; have hTT := Lib.hid hT
      clear hA hE hT
      go_wp2_with (first
        | (go_at_call 23; (with_reducible refine (fuse_none _ _ _ h0).mono ?_); rintro e _ ⟨rfl, rfl⟩)
        | (go_at_call 19; (with_reducible refine (crash_none _ _ h0).mono ?_); rintro e _ ⟨rfl, rfl⟩)
        | (go_at_call 20; (with_reducible refine (wake_none _ _ _ h1).mono ?_); rintro e _ ⟨rfl, rfl⟩)
        | (go_at_call 15; (with_reducible refine (read_none _ _ _ h1).mono ?_); rintro e w2 ⟨rfl, B2⟩; have h2 := h1.pure B2)
        | (go_at_call 21; (with_reducible refine (safe_none _ _ _ h2).mono ?_); rintro e w3 ⟨rfl, B3⟩; have h3 := h2.pure B3)
        | (go_at_call 24; (with_reducible refine (append_none _ _ _ _ h3).mono ?_); rintro e w4 ⟨rfl, B4⟩; have h4 := h3.pure B4)
        | (go_at_call 25; (with_reducible refine (sync_none _ _ _ h4).mono ?_); rintro e w5 ⟨rfl, B5⟩; have h5 := h4.pure B5)
        | (go_at_call 26; (with_reducible refine (cut_none _ _ _ _ h5).mono ?_); rintro e w6 ⟨rfl, B6⟩; have h6 := h5.pure B6)
        | (go_at_call 27; (with_reducible refine (rename_none _ _ _ _ h6).mono ?_); rintro e w7 ⟨rfl, B7⟩; have h7 := h6.pure B7)
        | (go_at_call 28; (with_reducible refine (remove_none _ _ _ h7).mono ?_); rintro e w8 ⟨rfl, B8⟩; have h8 := h7.pure B8)
        | (go_at_call 17; (with_reducible refine (down_none _ _ h8).mono ?_); rintro e _ ⟨rfl, rfl⟩)
        | (go_at_call 16; (with_reducible refine (used_none _ _ h8).mono ?_); rintro e _ ⟨rfl, rfl⟩)
        | (go_at_call 14; (with_reducible refine (list_none _ _ h8).mono ?_); rintro e _ ⟨rfl, rfl⟩)
        | (go_at_call 18; (with_reducible refine (copy_none _ _ h8).mono ?_); rintro e _ ⟨rfl, rfl⟩))
      have U1 := Ba
      have U2 := U1.trans (B2.mono U1.size)
      have U3 := U2.trans (B3.mono U2.size)
      have U4 := U3.trans (B4.mono U3.size)
      have U5 := U4.trans (B5.mono U4.size)
      have U6 := U5.trans (B6.mono U5.size)
      have U7 := U6.trans (B7.mono U6.size)
      have U8 := U7.trans (B8.mono U7.size)
      have U' := Lib.hid U8
      clear U1 U2 U3 U4 U5 U6 U7 U8
      go_roundw
      case rel => exact ⟨k + 1, by omega, by go_num, hTT.out.trans (U'.out.mono hTT.out.size), hAA.out.pure U'.out, hEE.out.pure U'.out⟩
      case measure => simp [intOf]; omega
    · obtain rfl : k = 2 := by omega
      go_wp2_with (go_at_call 11; (with_reducible refine (hhead'.out _).mono ?_); rintro e w9 ⟨rfl, B9⟩)
      go_ret
      exact ⟨rfl, hT.trans (B9.mono hT.size)⟩
end Go.Proofs.Ytgpdbifgbabnnaa

