/- Values: which may be (both sides). Conditions: package unicode/utf8's tables. Written by gen_valM.py. (Texts joined.) -/
import Derived.Test.YtgnaifhmcllnlaaGreatDoorB01
set_option maxRecDepth 100000
set_option maxHeartbeats 12800000
set_option linter.unusedSimpArgs false
set_option linter.unusedVariables false
namespace Go.Proofs.YtgnaifhmcllnlaaGreatDoor
open Go.RowKit Tryz
theorem bax (x : Nat) (h : x < 256) : wrap64 (x : Int) = (x : Int) := IntWalk.wrap64_in _ (by omega)
theorem bee (s : ByteArray) (k : Nat) (h : k < s.size) : (s[k]'h).toNat = (s.get! k).toNat := by
 have : s.get! k = s.data[k]! := rfl
 rw [this, getElem!_pos s.data k h]
 rfl
theorem bev {P : Prop} (h : P := by
 have hk3 : (pos : Int) + (k : Int) < (s.size : Int) := by omega
 clear hokk hbk
 by_cases hbad : lk ≤ bk ∧ bk ≤ hk
 ·obtain ⟨g1, g2⟩ := hbad
  have hgood := qq (hokk'.out.2 ⟨g1, g2⟩); go_wp2; go_round
  case rel => exact ⟨k + 1, 128, 191, by omega, by omega, by go_num, rfl, rfl, qq (by rw [qk (by omega)]), qq (by rw [qk (by omega)]), qq (fun j h1 h2 => by
   rcases Nat.lt_or_ge j k with h' | h'
   ·exact hok.out j h1 h'
   ·obtain rfl : j = k := by omega
    exact hgood.out)⟩
  case measure => simp [intOf]; omega
 ·have hres := qq (show tot = false by
   rcases hu9h.out with ⟨h, _⟩ | ⟨_, _, _, h⟩
   ·rw [← hu.out]; exact aq8 s pos hlt h
   ·exact jp (hokk'.out.1 (h k hk1 hkl)) hbad)
  by_cases g1 : bk < lk
  ·clear hbad
   go_wp2; go_ret; exact ⟨by rw [hres.out]; rfl, rfl⟩
  ·have g2 : hk < bk := by omega
   have g3 : lk ≤ bk := by omega
   clear hbad g1; go_wp2; go_ret
   exact ⟨by rw [hres.out]; rfl, rfl⟩) : P := h
theorem bem {P : Prop} (h : P := by
 obtain rfl : k = 3 := by omega
 have hnext := qq (show _root_.Go.Proofs.YtgnaifhmcllnlaaGreatDoor.u8 (s.data.toList.drop (pos + 3)) = tot by
  rcases hu9h.out with ⟨_, h | h | h⟩ | ⟨h, _⟩
  ·exact jp h (by omega)
  ·exact jp hfit h
  ·exact jp hok.out h
  ·have := aos s pos hlt (by rw [h]; omega)
   rw [h] at this; exact this.trans hu.out)
 go_wp2
 go_round
 case rel => exact ⟨pos + 3, by go_num, by omega, hnext⟩
 case measure => simp [intOf]; omega) : P := h
theorem bew {P : Prop} (h : P := by
 obtain rfl : k = 4 := by omega
 have hnext := qq (show _root_.Go.Proofs.YtgnaifhmcllnlaaGreatDoor.u8 (s.data.toList.drop (pos + 4)) = tot by
  rcases hu9h.out with ⟨_, h | h | h⟩ | ⟨h, _⟩
  ·exact jp h (by omega)
  ·exact jp hfit h
  ·exact jp hok.out h
  ·have := aos s pos hlt (by rw [h]; omega)
   rw [h] at this; exact this.trans hu.out)
 go_wp2
 go_round
 case rel => exact ⟨pos + 4, by go_num, by omega, hnext⟩
 case measure => simp [intOf]; omega) : P := h
theorem bex {P : Prop} (h : P := by
 have hres := qq (show tot = false by
  rcases hu9h.out with ⟨h, _⟩ | ⟨_, _, h, _⟩
  ·rw [← hu.out]; exact aq8 s pos hlt h
  ·exact jp h hfit)
 clear hA
 have h2 : (s.size : Int) < (pos : Int) + 3 := by omega
 go_wp2
 go_ret
 exact ⟨by rw [hres.out]; rfl, rfl⟩) : P := h
theorem bey {P : Prop} (h : P := by
 have hres := qq (show tot = false by
  rcases hu9h.out with ⟨h, _⟩ | ⟨_, _, h, _⟩
  ·rw [← hu.out]; exact aq8 s pos hlt h
  ·exact jp h hfit)
 clear hA
 have h2 : (s.size : Int) < (pos : Int) + 4 := by omega
 go_wp2
 go_ret
 exact ⟨by rw [hres.out]; rfl, rfl⟩) : P := h
theorem ben {P : Prop} (h : P := by
 obtain ⟨bk, hbk⟩ : ∃ bk : Int, (A k : Int) = bk := ⟨_, rfl⟩
 rw [hbk] at hbk0 hokk
 have hokk' := qq hokk
 have hk0 : (0 : Int) ≤ (k : Int) := by omega
 have hk2 : (k : Int) < 3 := by omega
 exact bev) : P := h
theorem beo {P : Prop} (h : P := by
 obtain ⟨bk, hbk⟩ : ∃ bk : Int, (A k : Int) = bk := ⟨_, rfl⟩
 rw [hbk] at hbk0 hokk
 have hokk' := qq hokk
 have hk0 : (0 : Int) ≤ (k : Int) := by omega
 have hk2 : (k : Int) < 4 := by omega
 exact bev) : P := h
theorem bfp (s : ByteArray) (w : World) (hs : (s.size : Int) ≤ 4611686018427387904) :
 Calls prog 219 #[.string s] w fun e w' => e = .returned (.bool (u8s s)) ∧ w = w' := by
 obtain ⟨tot, U⟩ := qx (u8s s)
 have ab : Hid (u8 (s.data.toList.drop 0) = tot) := qq (by rw [List.drop_zero]; exact U)
 rw [U]
 clear U
 go_enter func219, ntmps219
 go_wp2
 go_loop [3] (fun W => ∃ pos : Nat, W = .int .i64 pos ∧ pos ≤ s.size ∧ Hid (u8 (s.data.toList.drop pos) = tot)) (fun W => s.size - (intOf W).toNat)
 case atStart => exact ⟨0, rfl, by omega, ab⟩
 case round =>
  obtain ⟨pos, rfl, ae, hu⟩ := hrel; by_cases hlt : pos < s.size
  rotate_left 1
  ·have hres := qq (show tot = true by rw [← hu.out]; exact aor s pos hlt)
   go_wp2; go_ret; exact ⟨by rw [hres.out]; rfl, rfl⟩
  ·have h0 : (0 : Int) ≤ (pos : Int) := by omega
   have h1 : (pos : Int) < (s.size : Int) := by omega
   obtain ⟨A, hA⟩ : ∃ A : Nat → Nat, ∀ k, A k = (s.get! (pos + k)).toNat := ⟨fun k => (s.get! (pos + k)).toNat, fun _ => rfl⟩
   obtain ⟨⟨n, lo, hi⟩, X⟩ := qx (cls (A 0)); have F := bgq s pos hlt A hA X; have Y := bf8 (A 0) X; have ad : wrap64 ((s[pos]'hlt).toNat : Int) = (A 0 : Int) := by rw [bax _ (s[pos]'hlt).toNat_lt, bee, hA, Nat.add_zero]
   have aa : (A 0 : Int) < 256 := by have := (s.get! (pos + 0)).toNat_lt; rw [← hA] at this; omega
   clear X; obtain ⟨b, Z⟩ : ∃ b : Int, (A 0 : Int) = b := ⟨_, rfl⟩
   have af : 0 ≤ b := by omega
   rw [Z] at ad aa
   have ac : (b < 128 ∧ n = 1 ∧ lo = 128 ∧ hi = 191) ∨ (194 ≤ b ∧ b ≤ 223 ∧ n = 2 ∧ lo = 128 ∧ hi = 191) ∨ (b = 224 ∧ n = 3 ∧ lo = 160 ∧ hi = 191) ∨ (b = 237 ∧ n = 3 ∧ lo = 128 ∧ hi = 159) ∨ (225 ≤ b ∧ b ≤ 239 ∧ b ≠ 237 ∧ n = 3 ∧ lo = 128 ∧ hi = 191) ∨ (b = 240 ∧ n = 4 ∧ lo = 144 ∧ hi = 191) ∨ (b = 244 ∧ n = 4 ∧ lo = 128 ∧ hi = 143) ∨ (241 ≤ b ∧ b ≤ 243 ∧ n = 4 ∧ lo = 128 ∧ hi = 191) ∨ (((128 ≤ b ∧ b ≤ 193) ∨ 245 ≤ b) ∧ n = 0 ∧ lo = 128 ∧ hi = 191) := by
    rcases Y with h | h | h | h | h | h | h | h | h
    ·refine .inl ?_; omega
    ·refine .inr (.inl ?_); omega
    ·refine .inr (.inr (.inl ?_)); omega
    ·refine .inr (.inr (.inr (.inl ?_))); omega
    ·refine .inr (.inr (.inr (.inr (.inl ?_)))); omega
    ·refine .inr (.inr (.inr (.inr (.inr (.inl ?_))))); omega
    ·refine .inr (.inr (.inr (.inr (.inr (.inr (.inl ?_)))))); omega
    ·refine .inr (.inr (.inr (.inr (.inr (.inr (.inr (.inl ?_))))))); omega
    ·refine .inr (.inr (.inr (.inr (.inr (.inr (.inr (.inr (?_)))))))); omega
   clear Y Z; rcases ac with G | G | G | G | G | G | G | G | G
   ·obtain ⟨O, rfl, rfl, rfl⟩ := G
    have hu9h := qq F; clear F; have hfit : pos + 1 ≤ s.size := by omega
    have h2 : (pos : Int) + 1 ≤ (s.size : Int) := by omega
    have K := qq hA; clear hA; go_wp2; go_loop [6, 7, 8] (fun I H D => ∃ (k : Nat) (lk hk : Int), 1 ≤ k ∧ k ≤ 1 ∧ D = .int .i64 k ∧ I = .int .i64 lk ∧ H = .int .i64 hk ∧ Hid (lk = (if k = 1 then 128 else 128)) ∧ Hid (hk = (if k = 1 then 191 else 191)) ∧ Hid (∀ j, 1 ≤ j → j < k → okB A 128 191 j)) (fun _ _ D => 1 - (intOf D).toNat)
    case atStart => exact ⟨1, 128, 191, by omega, by omega, rfl, rfl, rfl, qq rfl, qq rfl, qq (fun j h1 h2 => by omega)⟩
    case round =>
     obtain ⟨k, lk, hk, hk1, N, rfl, rfl, rfl, J, M, hok⟩ := hrel; by_cases hkl : k < 1
     ·omega
     ·obtain rfl : k = 1 := by omega
      have hnext := qq (show _root_.Go.Proofs.YtgnaifhmcllnlaaGreatDoor.u8 (s.data.toList.drop (pos + 1)) = tot by
       rcases hu9h.out with ⟨_, h | h | h⟩ | ⟨h, _⟩
       ·exact jp h (by omega)
       ·exact jp hfit h
       ·exact jp hok.out h
       ·have := aos s pos hlt (by rw [h]; omega)
        rw [h] at this; exact this.trans hu.out)
      go_wp2; go_round
      case rel => exact ⟨pos + 1, by go_num, by omega, hnext⟩
      case measure => simp [intOf]; omega
   ·obtain ⟨O, c2, rfl, rfl, rfl⟩ := G
    have hu9h := qq F; clear F; by_cases hfit : pos + 2 ≤ s.size
    rotate_left 1
    ·have hres := qq (show tot = false by
      rcases hu9h.out with ⟨h, _⟩ | ⟨_, _, h, _⟩
      ·rw [← hu.out]; exact aq8 s pos hlt h
      ·exact jp h hfit)
     clear hA; have h2 : (s.size : Int) < (pos : Int) + 2 := by omega
     go_wp2; go_ret; exact ⟨by rw [hres.out]; rfl, rfl⟩
    have h2 : (pos : Int) + 2 ≤ (s.size : Int) := by omega
    have K := qq hA; clear hA; go_wp2; go_loop [6, 7, 8] (fun I H D => ∃ (k : Nat) (lk hk : Int), 1 ≤ k ∧ k ≤ 2 ∧ D = .int .i64 k ∧ I = .int .i64 lk ∧ H = .int .i64 hk ∧ Hid (lk = (if k = 1 then 128 else 128)) ∧ Hid (hk = (if k = 1 then 191 else 191)) ∧ Hid (∀ j, 1 ≤ j → j < k → okB A 128 191 j)) (fun _ _ D => 2 - (intOf D).toNat)
    case atStart => exact ⟨1, 128, 191, by omega, by omega, rfl, rfl, rfl, qq rfl, qq rfl, qq (fun j h1 h2 => by omega)⟩
    case round =>
     obtain ⟨k, lk, hk, hk1, N, rfl, rfl, rfl, J, M, hok⟩ := hrel; by_cases hkl : k < 2
     ·have E : pos + k < s.size := by omega
      have hbk0 : wrap64 ((s[pos + k]'E).toNat : Int) = (A k : Int) := by rw [bax _ (s[pos + k]'E).toNat_lt, bee, K.out]
      have hokk : okB A 128 191 k ↔ lk ≤ (A k : Int) ∧ (A k : Int) ≤ hk := by
       rw [J.out, M.out]; unfold okB; split <;> omega
      obtain ⟨bk, hbk⟩ : ∃ bk : Int, (A k : Int) = bk := ⟨_, rfl⟩
      rw [hbk] at hbk0 hokk; have hokk' := qq hokk; have hk0 : (0 : Int) ≤ (k : Int) := by omega
      have hk2 : (k : Int) < 2 := by omega
      exact bev
     ·obtain rfl : k = 2 := by omega
      have hnext := qq (show _root_.Go.Proofs.YtgnaifhmcllnlaaGreatDoor.u8 (s.data.toList.drop (pos + 2)) = tot by
       rcases hu9h.out with ⟨_, h | h | h⟩ | ⟨h, _⟩
       ·exact jp h (by omega)
       ·exact jp hfit h
       ·exact jp hok.out h
       ·have := aos s pos hlt (by rw [h]; omega)
        rw [h] at this; exact this.trans hu.out)
      go_wp2; go_round
      case rel => exact ⟨pos + 2, by go_num, by omega, hnext⟩
      case measure => simp [intOf]; omega
   ·obtain ⟨rfl, rfl, rfl, rfl⟩ := G
    have hu9h := qq F; clear F; by_cases hfit : pos + 3 ≤ s.size
    rotate_left 1
    ·exact bex
    have h2 : (pos : Int) + 3 ≤ (s.size : Int) := by omega
    have K := qq hA; clear hA; go_wp2; go_loop [6, 7, 8] (fun I H D => ∃ (k : Nat) (lk hk : Int), 1 ≤ k ∧ k ≤ 3 ∧ D = .int .i64 k ∧ I = .int .i64 lk ∧ H = .int .i64 hk ∧ Hid (lk = (if k = 1 then 160 else 128)) ∧ Hid (hk = (if k = 1 then 191 else 191)) ∧ Hid (∀ j, 1 ≤ j → j < k → okB A 160 191 j)) (fun _ _ D => 3 - (intOf D).toNat)
    case atStart => exact ⟨1, 160, 191, by omega, by omega, rfl, rfl, rfl, qq rfl, qq rfl, qq (fun j h1 h2 => by omega)⟩
    case round =>
     obtain ⟨k, lk, hk, hk1, N, rfl, rfl, rfl, J, M, hok⟩ := hrel; by_cases hkl : k < 3
     ·have E : pos + k < s.size := by omega
      have hbk0 : wrap64 ((s[pos + k]'E).toNat : Int) = (A k : Int) := by rw [bax _ (s[pos + k]'E).toNat_lt, bee, K.out]
      have hokk : okB A 160 191 k ↔ lk ≤ (A k : Int) ∧ (A k : Int) ≤ hk := by
       rw [J.out, M.out]; unfold okB; split <;> omega
      exact ben
     ·exact bem
   ·obtain ⟨rfl, rfl, rfl, rfl⟩ := G
    have hu9h := qq F; clear F; by_cases hfit : pos + 3 ≤ s.size
    rotate_left 1
    ·exact bex
    have h2 : (pos : Int) + 3 ≤ (s.size : Int) := by omega
    have K := qq hA; clear hA; go_wp2; go_loop [6, 7, 8] (fun I H D => ∃ (k : Nat) (lk hk : Int), 1 ≤ k ∧ k ≤ 3 ∧ D = .int .i64 k ∧ I = .int .i64 lk ∧ H = .int .i64 hk ∧ Hid (lk = (if k = 1 then 128 else 128)) ∧ Hid (hk = (if k = 1 then 159 else 191)) ∧ Hid (∀ j, 1 ≤ j → j < k → okB A 128 159 j)) (fun _ _ D => 3 - (intOf D).toNat)
    case atStart => exact ⟨1, 128, 159, by omega, by omega, rfl, rfl, rfl, qq rfl, qq rfl, qq (fun j h1 h2 => by omega)⟩
    case round =>
     obtain ⟨k, lk, hk, hk1, N, rfl, rfl, rfl, J, M, hok⟩ := hrel; by_cases hkl : k < 3
     ·have E : pos + k < s.size := by omega
      have hbk0 : wrap64 ((s[pos + k]'E).toNat : Int) = (A k : Int) := by rw [bax _ (s[pos + k]'E).toNat_lt, bee, K.out]
      have hokk : okB A 128 159 k ↔ lk ≤ (A k : Int) ∧ (A k : Int) ≤ hk := by
       rw [J.out, M.out]; unfold okB; split <;> omega
      exact ben
     ·exact bem
   ·obtain ⟨O, c2, c3, rfl, rfl, rfl⟩ := G
    have hu9h := qq F; clear F; by_cases hfit : pos + 3 ≤ s.size
    rotate_left 1
    ·exact bex
    have h2 : (pos : Int) + 3 ≤ (s.size : Int) := by omega
    have K := qq hA; clear hA; go_wp2; go_loop [6, 7, 8] (fun I H D => ∃ (k : Nat) (lk hk : Int), 1 ≤ k ∧ k ≤ 3 ∧ D = .int .i64 k ∧ I = .int .i64 lk ∧ H = .int .i64 hk ∧ Hid (lk = (if k = 1 then 128 else 128)) ∧ Hid (hk = (if k = 1 then 191 else 191)) ∧ Hid (∀ j, 1 ≤ j → j < k → okB A 128 191 j)) (fun _ _ D => 3 - (intOf D).toNat)
    case atStart => exact ⟨1, 128, 191, by omega, by omega, rfl, rfl, rfl, qq rfl, qq rfl, qq (fun j h1 h2 => by omega)⟩
    case round =>
     obtain ⟨k, lk, hk, hk1, N, rfl, rfl, rfl, J, M, hok⟩ := hrel; by_cases hkl : k < 3
     ·have E : pos + k < s.size := by omega
      have hbk0 : wrap64 ((s[pos + k]'E).toNat : Int) = (A k : Int) := by rw [bax _ (s[pos + k]'E).toNat_lt, bee, K.out]
      have hokk : okB A 128 191 k ↔ lk ≤ (A k : Int) ∧ (A k : Int) ≤ hk := by
       rw [J.out, M.out]; unfold okB; split <;> omega
      exact ben
     ·exact bem
   ·obtain ⟨rfl, rfl, rfl, rfl⟩ := G
    have hu9h := qq F; clear F; by_cases hfit : pos + 4 ≤ s.size
    rotate_left 1
    ·exact bey
    have h2 : (pos : Int) + 4 ≤ (s.size : Int) := by omega
    have K := qq hA; clear hA; go_wp2; go_loop [6, 7, 8] (fun I H D => ∃ (k : Nat) (lk hk : Int), 1 ≤ k ∧ k ≤ 4 ∧ D = .int .i64 k ∧ I = .int .i64 lk ∧ H = .int .i64 hk ∧ Hid (lk = (if k = 1 then 144 else 128)) ∧ Hid (hk = (if k = 1 then 191 else 191)) ∧ Hid (∀ j, 1 ≤ j → j < k → okB A 144 191 j)) (fun _ _ D => 4 - (intOf D).toNat)
    case atStart => exact ⟨1, 144, 191, by omega, by omega, rfl, rfl, rfl, qq rfl, qq rfl, qq (fun j h1 h2 => by omega)⟩
    case round =>
     obtain ⟨k, lk, hk, hk1, N, rfl, rfl, rfl, J, M, hok⟩ := hrel; by_cases hkl : k < 4
     ·have E : pos + k < s.size := by omega
      have hbk0 : wrap64 ((s[pos + k]'E).toNat : Int) = (A k : Int) := by rw [bax _ (s[pos + k]'E).toNat_lt, bee, K.out]
      have hokk : okB A 144 191 k ↔ lk ≤ (A k : Int) ∧ (A k : Int) ≤ hk := by
       rw [J.out, M.out]; unfold okB; split <;> omega
      exact beo
     ·exact bew
   ·obtain ⟨rfl, rfl, rfl, rfl⟩ := G
    have hu9h := qq F; clear F; by_cases hfit : pos + 4 ≤ s.size
    rotate_left 1
    ·exact bey
    have h2 : (pos : Int) + 4 ≤ (s.size : Int) := by omega
    have K := qq hA; clear hA; go_wp2; go_loop [6, 7, 8] (fun I H D => ∃ (k : Nat) (lk hk : Int), 1 ≤ k ∧ k ≤ 4 ∧ D = .int .i64 k ∧ I = .int .i64 lk ∧ H = .int .i64 hk ∧ Hid (lk = (if k = 1 then 128 else 128)) ∧ Hid (hk = (if k = 1 then 143 else 191)) ∧ Hid (∀ j, 1 ≤ j → j < k → okB A 128 143 j)) (fun _ _ D => 4 - (intOf D).toNat)
    case atStart => exact ⟨1, 128, 143, by omega, by omega, rfl, rfl, rfl, qq rfl, qq rfl, qq (fun j h1 h2 => by omega)⟩
    case round =>
     obtain ⟨k, lk, hk, hk1, N, rfl, rfl, rfl, J, M, hok⟩ := hrel; by_cases hkl : k < 4
     ·have E : pos + k < s.size := by omega
      have hbk0 : wrap64 ((s[pos + k]'E).toNat : Int) = (A k : Int) := by rw [bax _ (s[pos + k]'E).toNat_lt, bee, K.out]
      have hokk : okB A 128 143 k ↔ lk ≤ (A k : Int) ∧ (A k : Int) ≤ hk := by
       rw [J.out, M.out]; unfold okB; split <;> omega
      exact beo
     ·exact bew
   ·obtain ⟨O, c2, rfl, rfl, rfl⟩ := G
    have hu9h := qq F; clear F; by_cases hfit : pos + 4 ≤ s.size
    rotate_left 1
    ·exact bey
    have h2 : (pos : Int) + 4 ≤ (s.size : Int) := by omega
    have K := qq hA; clear hA; go_wp2; go_loop [6, 7, 8] (fun I H D => ∃ (k : Nat) (lk hk : Int), 1 ≤ k ∧ k ≤ 4 ∧ D = .int .i64 k ∧ I = .int .i64 lk ∧ H = .int .i64 hk ∧ Hid (lk = (if k = 1 then 128 else 128)) ∧ Hid (hk = (if k = 1 then 191 else 191)) ∧ Hid (∀ j, 1 ≤ j → j < k → okB A 128 191 j)) (fun _ _ D => 4 - (intOf D).toNat)
    case atStart => exact ⟨1, 128, 191, by omega, by omega, rfl, rfl, rfl, qq rfl, qq rfl, qq (fun j h1 h2 => by omega)⟩
    case round =>
     obtain ⟨k, lk, hk, hk1, N, rfl, rfl, rfl, J, M, hok⟩ := hrel; by_cases hkl : k < 4
     ·have E : pos + k < s.size := by omega
      have hbk0 : wrap64 ((s[pos + k]'E).toNat : Int) = (A k : Int) := by rw [bax _ (s[pos + k]'E).toNat_lt, bee, K.out]
      have hokk : okB A 128 191 k ↔ lk ≤ (A k : Int) ∧ (A k : Int) ≤ hk := by
       rw [J.out, M.out]; unfold okB; split <;> omega
      exact beo
     ·exact bew
   ·obtain ⟨O, rfl, rfl, rfl⟩ := G
    have hres := qq (show tot = false by
     rcases F with ⟨h, _⟩ | ⟨_, h, _⟩
     ·rw [← hu.out]; exact aq8 s pos hlt h
     ·exact jp rfl h)
    clear F hA; rcases O with O | O
    all_goals
     go_wp2; go_ret; exact ⟨by rw [hres.out]; rfl, rfl⟩
open Go.RowKit Go.ChangeMaps Go.MapKept Tryz
open Go.Maps (Keyed)
structure MapT (P : Program) (t k e : TypeId) {κ ε : Type} (kv : κ → Value) (kl : κ → Lit) (ok : κ → Prop) (ev : ε → Value) (dec : Value → Option ε) (z : ε) : Prop where
 ht : P.underlying t = some (.map k e)
 K : Keyed P k
 hkey : ∀ x, ok x → keyOf P k (kv x) = some (kl x)
 inj : ∀ x y, ok x → ok y → kl x = kl y → x = y
 de : ∀ y, dec (ev y) = some y
 ed : ∀ v y, dec v = some y → v = ev y
 hz : ∀ w, (zeroValue e).run P w = .ok (ev z) w
def avp {ε : Type} (dec : Value → Option ε) (v : Value) : Option (DataW ε × List MemPlace) := (dec v).map (fun y => (.held y, []))
def MapG {κ ε : Type} (P : Program) (k : TypeId) (kl : κ → Lit) (ok : κ → Prop) (dec : Value → Option ε) (w : World) (b : Nat) (h : κ → Option ε) (cnt : Nat) : Prop :=
 ∃ D : DataW ε, w.ownsMap P k (avp dec) b cnt D ∧ Maps.size D = cnt ∧ ∀ x, ok x → Maps.has D (kl x) = (h x).isSome ∧ ∀ y, h x = some y → ∀ z, D.atKey (kl x) z = .held y
theorem bbe {H : Type} {P : Program} {k : TypeId} {R : Value → Option (DataW H × List MemPlace)} {w : World} {b n : Nat} {D : DataW H} (h : w.ownsMap P k R b n D) : w.ownsMap P k R b (Maps.size D) D := by
 obtain ⟨G, A, E, F, hs, rfl⟩ := h
 exact ⟨G, A, E, F, by simp [Maps.size, length_sorted], rfl⟩
section
variable {κ ε : Type} {P : Program} {t k e : TypeId} {kv : κ → Value} {kl : κ → Lit} {ok : κ → Prop} {ev : ε → Value} {dec : Value → Option ε} {z : ε} {w w' : World} {b cnt : Nat} {h : κ → Option ε}
theorem MapG.made (w : World) : MapG P k kl ok dec (w.alloc (.map #[] 0)) w.heap.size (fun _ => none) 0 :=
 ⟨_, World.ownsMap_made w P k (avp dec), rfl, fun x _ => ⟨rfl, fun _ h => by cases h⟩⟩
theorem MapG.lt (m : MapG P k kl ok dec w b h cnt) : b < w.heap.size := by obtain ⟨D, h, _⟩ := m; exact h.lt
theorem MapG.keep (m : MapG P k kl ok dec w b h cnt) (F : w'.heap[b]? = w.heap[b]?) : MapG P k kl ok dec w' b h cnt := by
 obtain ⟨D, ⟨G, A, E, r⟩, H⟩ := m
 exact ⟨D, ⟨G, A, F.trans E, r⟩, H⟩
theorem MapG.upd {S : Nat → Prop} (m : MapG P k kl ok dec w b h cnt) (A : Upd S w w') (hs : ¬ S b) : MapG P k kl ok dec w' b h cnt := m.keep (A.block b m.lt hs)
theorem MapG.pure (m : MapG P k kl ok dec w b h cnt) (A : Below w.heap.size w w') : MapG P k kl ok dec w' b h cnt := m.keep (A.block b m.lt)
theorem MapG.alloc (m : MapG P k kl ok dec w b h cnt) (o : Obj) : MapG P k kl ok dec (w.alloc o) b h cnt := m.pure ((qz _ _).alloc (qj _) _)
theorem MapG.other (m : MapG P k kl ok dec w b h cnt) (p : Addr) (u : Value) (A : b ≠ p.block) : MapG P k kl ok dec (w.setCell p u) b h cnt := m.keep (Below.heap_setCell _ _ _ _ A)
theorem MapG.ext {A : κ → Option ε} (m : MapG P k kl ok dec w b h cnt) (H : ∀ x, ok x → A x = h x) : MapG P k kl ok dec w b A cnt := by
 obtain ⟨D, F, G, I⟩ := m
 exact ⟨D, F, G, fun x E => by rw [H x E]; exact I x E⟩
theorem MapT.isKey (T : MapT P t k e kv kl ok ev dec z) {x : κ} (A : ok x) : WideAt.IsKeyLit (kl x) := T.K.key (T.hkey x A)
theorem MapG.elem (T : MapT P t k e kv kl ok ev dec z) {x : κ} {D : DataW ε} (F : Maps.has D (kl x) = (h x).isSome ∧ ∀ y, h x = some y → ∀ z, D.atKey (kl x) z = .held y) {v : Value} {ps : List MemPlace}
 (A : avp dec v = some (D.atKey (kl x) (.held z), ps)) : v = ev ((h x).getD z) := by
 unfold avp at A
 cases hdec : dec v with
 | none => rw [hdec] at A; cases A
 | some y =>
  rw [hdec] at A; simp only [Option.map_some, jy, jm] at A; rw [T.ed v y hdec]; congr 1
  cases hh : h x with
  | none =>
   have : Maps.has D (kl x) = false := by rw [F.1, hh]; rfl
   have E := Maps.atKey_of_not_has this (.held z); rw [E] at A; injection A.1
  | some y' =>
   have E := F.2 y' hh (.held z); rw [E] at A; injection A.1
variable [DecidableEq κ]
theorem MapG.put_law (T : MapT P t k e kv kl ok ev dec z) {D : DataW ε} {n : Nat} (I : w.ownsMap P k (avp dec) b n D) (J : ∀ x, ok x → Maps.has D (kl x) = (h x).isSome ∧ ∀ y, h x = some y → ∀ z, D.atKey (kl x) z = .held y) {x : κ} (K : ok x) (y : ε) :
 ∀ u, ok u → Maps.has (D.put (kl x) (.held y)) (kl u) = (if u = x then some y else h u).isSome ∧ ∀ E, (if u = x then some y else h u) = some E → ∀ z, (D.put (kl x) (.held y)).atKey (kl u) z = .held E := by
 intro u A
 by_cases F : u = x
 ·subst F
  rw [qw rfl]; refine ⟨Maps.has_put_same I.isMap (T.isKey A) _, ?_⟩; intro E hy H; injection hy with hy; subst hy; exact Maps.atKey_put_same I.isMap (T.isKey A) _ _
 ·rw [qk F]
  have G : kl u ≠ kl x := fun e => F (T.inj u x A K e)
  refine ⟨(Maps.has_put_other G _).trans (J u A).1, fun E hy H => ?_⟩; rw [Maps.atKey_put_other G]; exact (J u A).2 E hy H
end
section
variable {κ ε : Type} {P : Program} {t k e : TypeId} {kv : κ → Value} {kl : κ → Lit} {ok : κ → Prop} {ev : ε → Value} {dec : Value → Option ε} {z : ε}
variable (w : World) {ops : Array Oper} {rest : List Oper} {o : Oper} {a : Act} {Q : Exit → Act → World → Prop} {b cnt : Nat} {h : κ → Option ε}
variable [DecidableEq κ]
theorem aot (T : MapT P t k e kv kl ok ev dec z) (O : o.guard = none) (m x v : Operand) (J : o.op = Op.mapUpdate t m x v) (Z : a.eval m = .map (some b)) (M : MapG P k kl ok dec w b h cnt) (W : cnt < maxLen) (u : κ) (y : ε) (U : a.eval x = kv u) (X : a.eval v = ev y) (A : ok u)
 (hK : ∀ w', MapG P k kl ok dec w' b (fun i => if i = u then some y else h i) (if (h u).isSome then cnt else cnt + 1) → w.grownBy w' (some b) → wpList P ops Q rest (a.put o.dst undef) w') : wpList P ops Q (o :: rest) a w := by
 obtain ⟨D, F, I, E⟩ := M
 refine wpList_mapUpdate_own w O m x v t J k e T.K T.ht (avp dec) b cnt D Z F W (kv u) (ev y) (kl u) U X (T.hkey u A) (.held y) [] (by simp [avp, T.de]) ?_
 intro w' Y N
 have G := Maps.size_put (k := kl u) (F.tidy T.K) (.held y)
 refine hK w' ⟨_, ?_, ?_, MapG.put_law T F E A y⟩ N
 ·have H := bbe Y
  rw [G, (E u A).1, I] at H; exact H
 ·rw [G, (E u A).1, I]
end
theorem alc (ks : List ByteArray) : ae1 ks = true ↔ (∀ k ∈ ks, akp k = true) ∧ ks.Nodup := by
 induction ks with
 | nil => simp [ae1]
 | cons a tl ih =>
  unfold ae1; simp only [jj, ih, List.mem_cons, forall_eq_or_imp, List.nodup_cons]
  have e : (!(tl.any fun x => x.toList == a.toList)) = true ↔ a ∉ tl := by
   rw [Bool.not_eq_true', List.any_eq_false]; constructor
   ·intro h H
    exact h a H (by simp)
   ·intro h x G I
    have : x = a := (aid x a).1 (by simpa using I); exact h (this ▸ G)
  rw [e]; constructor
  ·rintro ⟨⟨A, E⟩, F, D⟩; exact ⟨⟨A, F⟩, E, D⟩
  ·rintro ⟨⟨A, F⟩, E, D⟩; exact ⟨⟨A, E⟩, F, D⟩
theorem acs {x : ByteArray} (h : x.size = 0) : x.toList = [] := by rw [af5 h]; decide +kernel
theorem adh {x : ByteArray} (h : ¬ x.size = 0) : x.toList.isEmpty = false := by
 rw [Bool.eq_false_iff, ne_eq, List.isEmpty_iff]
 intro e
 apply h
 have : x = ByteArray.empty := (aid x ByteArray.empty).1 (by rw [e]; decide +kernel)
 rw [this]; rfl
def al8 (s : ByteArray) : Prop := s.size ≤ maxLen
def am6 : Value → Option Int
 | .int .i64 a => some a
 | _ => none
theorem mapT_str : MapT prog 250 9 3 (fun s : ByteArray => .string s) (fun s => .string s.data.toList) al8 (fun i : Int => .int .i64 i) am6 0 where
 ht := underlying250
 K := Maps.string_keyed underlying9
 hkey := fun x A => WideMaps.keyOf_string_mk underlying9 A
 inj := fun x y _ _ h => by
  injection h with h; cases x; cases y; simp at h; subst h; rfl
 de := fun y => rfl
 ed := fun v y h => by
  unfold am6 at h; split at h
  ·injection h with h; subst h; rfl
  ·cases h
 hz := fun w => by kernel_rfl
theorem look_run {w : World} {b cnt : Nat} {h : ByteArray → Option Int} (M : MapG prog 9 (fun s : ByteArray => Lit.string s.data.toList) al8 am6 w b h cnt) (u : ByteArray) (A : al8 u) :
 (Instr.lookup 250 (.map (some b)) (.string u) false).run prog w = .ok (.int .i64 ((h u).getD 0)) w := by
 obtain ⟨D, G, I, H⟩ := M
 obtain ⟨v, ps, E, F⟩ := G.lookup mapT_str.K mapT_str.ht (mapT_str.hz w) (zd := .held 0) (zp := []) (by simp [avp, am6]) (mapT_str.hkey u A)
 rw [E, MapG.elem mapT_str (H u A) F]
theorem be1 {P : Prop} (h : P := by
 obtain rfl : k = ks.length := by omega
 have hres := qq (show tot = true by
  rw [← htot'.out, alc]; refine ⟨fun x hx => ?_, by have := hnd.out; rwa [js] at this⟩; obtain ⟨j, hj, rfl⟩ := List.getElem_of_mem hx
  exact hok.out j hj hj)
 go_wp2
 go_ret
 exact ⟨by rw [hres.out]; rfl, hB⟩) : P := h
open Classical in
theorem as2 (w : World) (ka : Option Addr) (kc : Nat) (ks : List ByteArray) (hK : Slc abv 1 w (.slice ka ks.length kc) ks) (an : (ks.length : Int) ≤ 9223372036854775807) (hT : Tb w) :
 Calls prog 217 #[.slice ka ks.length kc] w fun e w' => e = .returned (.bool (ae1 ks)) ∧ Below w.heap.size w w' := by
 obtain ⟨tot, N⟩ := qx (ae1 ks)
 have htot' := qq N
 rw [N]
 clear N
 have ad := (qz w.heap.size w).alloc (qj _) (.map #[] 0)
 have ab : MapG prog 9 (fun s : ByteArray => Lit.string s.data.toList) al8 am6 (w.alloc (.map #[] 0)) w.heap.size (fun _ => none) 0 := MapG.made w
 have aj := qq hT
 clear hT
 have al := @run_makeMap prog
 go_enter func217, ntmps217
 go_wp2
 go_loopw [9] (fun X wr => ∃ k : Nat, k ≤ ks.length ∧ X = .int .i64 k ∧ Hid (∀ j, (h : j < ks.length) → j < k → akp ks[j] = true) ∧ Hid (ks.take k).Nodup ∧ MapG prog 9 (fun s : ByteArray => Lit.string s.data.toList) al8 am6 wr w.heap.size (fun x => if x ∈ ks.take k then some 1 else none) k ∧ Below w.heap.size w wr) (fun X _ => ks.length - (intOf X).toNat)
 case atStart => exact ⟨0, by omega, rfl, qq (fun j h h0 => jp h0 (by omega)), qq (by simp), by simpa using ab, ad⟩
 case round =>
  clear ab ad; obtain ⟨k, hk, rfl, hok, hnd, hM, hB⟩ := hrel; by_cases H : k < ks.length
  ·have ae := hK.pure hB
   obtain ⟨g, off, rfl⟩ := ae.addrB H; have q0 := ae.get k H 0 _ rfl; rw [Nat.mul_one, Nat.add_zero] at q0; have h1 : (k : Int) < (ks.length : Int) := by omega
   obtain ⟨x, hx⟩ := qx (ks[k]); rw [hx] at q0; have J := qq hx; clear hx
   have G := qq (fun (h : akp x = false ∨ x ∈ ks.take k) => show tot = false by
    rw [← htot'.out, Bool.eq_false_iff, ne_eq, alc]; rintro ⟨g1, g2⟩; rcases h with h | h
    ·have := g1 ks[k] (qy H)
     rw [J.out, h] at this; cases this
    ·obtain ⟨j, hj, he⟩ := List.getElem_of_mem h
     rw [List.getElem_take] at he; have am : j < k := by rw [List.length_take] at hj; omega
     have := (List.getElem_inj g2).1 (he.trans J.out.symm)
     omega)
   by_cases Z : x.size = 0
   ·have Y : x.toList = [] := acs Z
    have hres := qq (G.out (.inl (by unfold akp; simp [Z]))); exact aek
   have Y : x.toList.isEmpty = false := adh Z; have e2 : ¬ x.toList = [] := fun h => by rw [h] at Y; cases Y
   by_cases z2 : 255 < x.size
   ·have hres := qq (G.out (.inl (by unfold akp; simp [show ¬ x.size ≤ 255 by omega])))
    have e3 : (255 : Int) < (x.size : Int) := by omega
    exact aek
   have e3 : decide ((255 : Int) < (x.size : Int)) = false := qg (by omega); have W : al8 x := by unfold al8 maxLen; omega
   obtain ⟨b, E⟩ := qx (u8s x); have M := am5 x wr (by omega) (aj.out.pure hB); rw [E] at M; have O := qq M; have ac := qq E; clear M E; cases b
   ·have hres := qq (G.out (.inl (by unfold akp; simp [ac.out])))
    go_wp2_with (go_at_call 216; (with_reducible refine O.out.mono ?_); rintro e w1 ⟨rfl, A⟩); go_ret; exact ⟨by rw [hres.out]; rfl, hB.trans (A.mono hB.size)⟩
   by_cases D : x ∈ ks.take k
   ·have hres := qq (G.out (.inr D))
    have K := qq (show (if x ∈ ks.take k then some (1 : Int) else none) = some 1 by rw [qw D]); clear D; go_wp2_with (first | (go_at_call 216; (with_reducible refine O.out.mono ?_); rintro e w1 ⟨rfl, A⟩; have I := hM.pure A; have F := look_run I x W; rw [K.out] at F; simp only [Option.getD_some] at F)); go_ret; exact ⟨by rw [hres.out]; rfl, hB.trans (A.mono hB.size)⟩
   ·have K := qq (show (if x ∈ ks.take k then some (1 : Int) else none) = none by rw [qk D])
    have af := qq D; have ak := qq (show akp x = true by unfold akp; simp [ac.out]; omega); clear D; go_wp2_with (first | (go_at_call 216; (with_reducible refine O.out.mono ?_); rintro e w1 ⟨rfl, A⟩; have I := hM.pure A; have F := look_run I x W; rw [K.out] at F; simp only [Option.getD_none] at F) | (refine aot _ mapT_str rfl (.tmp 31) (.tmp 32) (.tmp 34) rfl rfl I (by unfold maxLen; omega) x 1 rfl rfl W ?_; intro w2 aa ag)); have ah := (hB.trans (A.mono hB.size)).grown ag (jk hB.size A.size) (fun j e => by cases e; exact qj _); rw [K.out] at aa; have U := jx H; rw [J.out] at U
    have ai : MapG prog 9 (fun s : ByteArray => Lit.string s.data.toList) al8 am6 w2 w.heap.size (fun y => if y ∈ ks.take (k + 1) then some 1 else none) (k + 1) := by
     refine (by simpa using aa : MapG prog 9 (fun s : ByteArray => Lit.string s.data.toList) al8 am6 w2 w.heap.size _ (k + 1)).ext (fun y _ => ?_); rw [U, List.mem_append, jc]; by_cases hy : y = x <;> simp [hy]
    go_roundw
    case rel => exact ⟨k + 1, by omega, by go_num, qq (fun j h h0 => by
     rcases Nat.lt_or_ge j k with h' | h'
     ·exact hok.out j h h'
     ·obtain rfl : j = k := by omega
      rw [J.out]; exact ak.out), qq (by rw [U, List.nodup_append]; exact ⟨hnd.out, by simp, fun a ha b E => by simp at E; subst E; exact fun e => af.out (e ▸ ha)⟩), ai, ah⟩
    case measure => simp [intOf]; omega
  ·exact be1
theorem aad {a w : World} {B : Nat} (h : Below B a w) : Below B a w.drew := ⟨h.os, h.tape, h.output, h.size, h.block⟩
theorem bf9 (w : World) (ka : Option Addr) (kc : Nat) (ks : List ByteArray) (hK : Slc abv 1 w (.slice ka ks.length kc) ks) (ag : (ks.length : Int) ≤ 9223372036854775807) :
 Calls prog 220 #[.slice ka ks.length kc] w fun e w' => e = .returned (.bool (ae1 ks)) ∧ Below w.heap.size w w' := by
 obtain ⟨tot, M⟩ := qx (ae1 ks)
 have htot' := qq M
 rw [M]
 clear M
 go_enter func220, ntmps220
 go_wp2
 go_loopw [3] (fun N wr => ∃ k : Nat, k ≤ ks.length ∧ N = .int .i64 k ∧ Hid (∀ j, (h : j < ks.length) → j < k → akp ks[j] = true) ∧ Hid (ks.take k).Nodup ∧ Below w.heap.size w wr) (fun N _ => ks.length - (intOf N).toNat)
 case atStart => exact ⟨0, by omega, rfl, qq (fun j h h0 => jp h0 (by omega)), qq (by simp), qz _ _⟩
 case round =>
  obtain ⟨k, hk, rfl, hok, hnd, hB⟩ := hrel; by_cases G : k < ks.length
  ·have E := hK.pure hB
   obtain ⟨g, off, rfl⟩ := E.addrB G; have A := E.get k G 0 _ rfl; rw [Nat.mul_one, Nat.add_zero] at A; have h1 : (k : Int) < (ks.length : Int) := by omega
   obtain ⟨x, hx⟩ := qx (ks[k]); rw [hx] at A; have H := qq hx; clear hx
   have I := qq (fun (h : akp x = false ∨ x ∈ ks.take k) => show tot = false by
    rw [← htot'.out, Bool.eq_false_iff, ne_eq, alc]; rintro ⟨g1, g2⟩; rcases h with h | h
    ·have := g1 ks[k] (qy G)
     rw [H.out, h] at this; cases this
    ·obtain ⟨j, hj, he⟩ := List.getElem_of_mem h
     rw [List.getElem_take] at he; have ac : j < k := by rw [List.length_take] at hj; omega
     have := (List.getElem_inj g2).1 (he.trans H.out.symm)
     omega)
   by_cases J : x.size = 0
   ·have hres := qq (I.out (.inl (by unfold akp; simp [J])))
    have e1 : (x.size : Int) < 1 := by omega
    have e2 : x.size < 1 := by omega
    exact aek
   have e1 : (1 : Int) ≤ (x.size : Int) := by omega
   by_cases z2 : 255 < x.size
   ·have hres := qq (I.out (.inl (by unfold akp; simp [show ¬ x.size ≤ 255 by omega])))
    have e3 : (255 : Int) < (x.size : Int) := by omega
    clear J; exact aek
   have e2 : decide ((x.size : Int) < 1) = false := qg (by omega); have e3 : decide ((255 : Int) < (x.size : Int)) = false := qg (by omega); have ah : (x.size : Int) ≤ 255 := by omega
   obtain ⟨b, F⟩ := qx (u8s x); have K := bfp x wr (by omega); rw [F] at K; have W := qq K; have Z := qq F; clear K F; cases b
   ·have hres := qq (I.out (.inl (by unfold akp; simp [Z.out])))
    clear J z2; go_wp2_with (go_at_call 219; (with_reducible refine W.out.mono ?_); rintro e w1 ⟨rfl, rfl⟩); go_ret; exact ⟨by rw [hres.out]; rfl, hB⟩
   have af := qq (show akp x = true by unfold akp; simp [Z.out]; omega); have ae := qq (jx G); clear J z2; go_wp2_with (go_at_call 219; (with_reducible refine W.out.mono ?_); rintro e w1 ⟨rfl, rfl⟩); obtain ⟨wo, aa⟩ : ∃ wo : World, wo = wr := ⟨_, rfl⟩
   rw [← aa] at hB A ⊢; clear E aa; go_loopw [4] (fun O wq => ∃ j : Nat, j ≤ k ∧ O = .int .i64 j ∧ Hid (x ∉ ks.take j) ∧ Below w.heap.size w wq) (fun O _ => k - (intOf O).toNat)
   case atStart => exact ⟨0, by omega, rfl, qq (by simp), hB⟩
   case round =>
    clear A hB; obtain ⟨j, hj, rfl, U, hB⟩ := hrel; by_cases ac : j < k
    ·have E := hK.pure hB
     have X : j < ks.length := by omega
     have A := E.get k G 0 _ rfl; have q1 := E.get j X 0 _ rfl; rw [Nat.mul_one, Nat.add_zero] at A q1; rw [H.out] at A; obtain ⟨y, hy⟩ := qx (ks[j]); rw [hy] at q1; have Y := qq hy; clear hy; have j1 : (j : Int) < (k : Int) := by omega
     have j2 : (j : Int) < (ks.length : Int) := by omega
     have j0 : (0 : Int) ≤ (j : Int) := by omega
     have k0 : (0 : Int) ≤ (k : Int) := by omega
     have ad := qq (jx X); by_cases D : y = x
     ·have e5 : (y.toList == x.toList) = true := (aid y x).2 D
      have hres := qq (I.out (.inr (by rw [← D, ← Y.out]; exact List.mem_take_iff_getElem.2 ⟨j, by omega, rfl⟩))); clear D; go_wp2; go_region
      all_goals
       go_wp2; go_ret; exact ⟨by rw [hres.out]; rfl, aad hB⟩
     ·have e5 : (y.toList == x.toList) = false := by rw [Bool.eq_false_iff, ne_eq, aid]; exact D
      have ab := qq D; clear D; go_wp2; go_region
      all_goals
       go_wp2; go_roundw
       case rel => exact ⟨j + 1, by omega, by go_num, qq (by rw [ad.out, List.mem_append, jc, Y.out]; rintro (h | h); exact U.out h; exact ab.out h.symm), aad hB⟩
       case measure => simp [intOf]; omega
    ·obtain rfl : j = k := by omega
     go_wp2; go_roundw
     case rel => exact ⟨j + 1, by omega, by go_num, qq (fun i h h0 => by
      rcases Nat.lt_or_ge i j with h' | h'
      ·exact hok.out i h h'
      ·obtain rfl : i = j := by omega
       rw [H.out]; exact af.out), qq (by rw [ae.out, H.out, List.nodup_append]; exact ⟨hnd.out, by simp, fun a ha b F => by simp at F; subst F; exact fun e => U.out (e ▸ ha)⟩), hB⟩
     case measure => simp [intOf]; omega
  ·exact be1
theorem aye : ∀ (v : V) (n : Int), 0 ≤ n → -1 ≤ v.cnt n := by
 intro v
 induction v using V.ind with
 | h k n s ks l ih =>
  intro m A; unfold V.cnt
  have D : ∀ (l : List V), (∀ t ∈ l, ∀ n : Int, 0 ≤ n → -1 ≤ t.cnt n) → ∀ m : Int, -1 ≤ m → -1 ≤ V.cntL l m := by
   intro l
   induction l with
   | nil => intro _ m h; unfold V.cntL; exact h
   | cons x xs ihx =>
    intro h m A; unfold V.cntL; split
    ·exact A
    ·exact ihx (fun t E => h t (List.mem_cons_of_mem _ E)) _ (h x (List.mem_cons_self ..) m (by omega))
  exact D l ih (m - 1) (by omega)
theorem am7 {l : List V} {k : Nat} (A : k < l.length) {m : Int} (D : 0 ≤ m) : V.cntL (l.drop k) m = V.cntL (l.drop (k + 1)) (l[k].cnt m) := by
 rw [List.drop_eq_getElem_cons A]
 conv => lhs; unfold V.cntL
 rw [qk (by omega)]
theorem am8 {l : List V} {k : Nat} (A : l.length ≤ k) (m : Int) : V.cntL (l.drop k) m = m := by
 rw [List.drop_eq_nil_of_le A]; unfold V.cntL; rfl
theorem ayf {t : VT} (n : Int) : t.v.cnt n = V.cntL (t.l.map VT.v) (n - 1) := by rw [VT.v_eq]; unfold V.cnt; rfl
theorem as3 (t : VT) : ∀ (P : Nat → Prop) (w : World) (n : Int), Rd P w t → 0 ≤ n → n ≤ 1000000 →
 Calls prog 128 #[t.arg, .int .i64 n] w fun e w' => e = .returned (.int .i64 (t.v.cnt n)) ∧ Below w.heap.size w w' := by
 induction t using VT.ind with
 | h t ih =>
  intro P w n W bb au; obtain ⟨F, K, H, J, G, M, I, ks, l, rfl, hK, hL, az, ba⟩ := W.open; rw [VT.arg_mk, ayf]; obtain ⟨E, N⟩ := qx (V.cntL ((VT.mk F K H (.slice J ks.length G) (.slice M l.length I) ks l).l.map VT.v) (n - 1)); have ak : Hid (V.cntL (l.map VT.v) (n - 1) = E) := qq N; rw [N]; have aa : ∀ x ∈ l, Rd P w x := W.sub
  have ai : ∀ x ∈ l, ∀ (P : Nat → Prop) (w : World) (n : Int), Rd P w x → 0 ≤ n → n ≤ 1000000 → Calls prog 128 #[x.arg, .int .i64 n] w fun e w' => e = .returned (.int .i64 (x.v.cnt n)) ∧ Below w.heap.size w w' := ih
  clear N ih W; have ao := qq ai; have aj := qq aa; clear ai aa; have ah := (qz w.heap.size w).alloc (qj _) (.cells #[.int .u8 F, .int .u64 K, .string H, .slice J ks.length G, .slice M l.length I] 56); have Y := Blk.new w [.int .u8 F, .int .u64 K, .string H, .slice J ks.length G, .slice M l.length I] 56; have c4 := Y.at 4 rfl; go_enter func128, ntmps128; go_wp2; go_loopw [1, 5] (fun s1 s5 wr => ∃ (k : Nat) (m : Int), k ≤ l.length ∧ s5 = .int .i64 k ∧ s1 = .int .i64 m ∧ -1 ≤ m ∧ m ≤ n ∧ V.cntL ((l.map VT.v).drop k) m = E ∧ Blk wr w.heap.size [.int .u8 F, .int .u64 K, .string H, .slice J ks.length G, .slice M l.length I] ∧ Below w.heap.size w wr) (fun _ s5 _ => l.length - (intOf s5).toNat)
  case atStart => exact ⟨0, n - 1, by omega, rfl, rfl, by omega, by omega, ak.out, Y, ah⟩
  case round =>
   clear c4 Y ah; obtain ⟨k, m, hk, rfl, rfl, ax, ay, hc, b, A⟩ := hrel; have U := qq hc; clear hc; have c4 := b.at 4 rfl; by_cases D : k < l.length
   ·by_cases ab : m < 0
    ·have O := qq (show m = E by rw [← U.out, apx _ ab])
     have h1 : (k : Int) < (l.length : Int) := by omega
     have h2 : decide (0 ≤ m) = false := qg (by omega); go_wp2; go_ret; exact ⟨by rw [O.out]; rfl, A⟩
    ·have Z : 0 ≤ m := by omega
     have ad := hL.pure A; obtain ⟨g, off, rfl⟩ := ad.addrB D; have ac := (aj.out l[k] (qy D)).pure A; obtain ⟨xk, xn, xs, aq, aw, av, a0, bc, ar, a1, xl, X, q0, q1, q2, q3, q4⟩ := ae4 ad D ac; have hi := ao.out l[k] (qy D) P _ m ac Z (by omega); have ag := aye l[k].v m Z; have al := ak2 l[k].v m; have ae := qq (show V.cntL ((l.map VT.v).drop (k + 1)) (l[k].v.cnt m) = E by rw [← U.out, am7 (by simpa using D) Z, zq]); rw [X, VT.arg_mk] at hi; obtain ⟨y, hy⟩ := qx (l[k].v.cnt m); rw [← X, hy] at hi; rw [hy] at ag al ae; have an := qq hi; clear hi X hy ab; have h1 : (k : Int) < (l.length : Int) := by omega
     go_wp2_with (go_at_call 128; (with_reducible refine an.out.mono ?_); rintro e w1 ⟨rfl, af⟩; have am := A.trans (af.mono A.size)); go_roundw
     case rel => exact ⟨k + 1, y, by omega, by go_num, rfl, ag, by omega, ae.out, b.pure af, am⟩
     case measure => simp [intOf]; omega
   ·obtain rfl : k = l.length := by omega
    have O := qq (show m = E by rw [← U.out, am8 (by simp)]); go_wp2; go_ret; exact ⟨by rw [O.out]; rfl, A⟩
theorem as4 {l : List V} {d : Nat} {k n : Int} {s : ByteArray} {ks : List ByteArray} : (V.mk k n s ks l).deep (d + 1) = l.any (V.deep d) := by conv => lhs; unfold V.deep
theorem ah0 {l : List VT} {d : Nat} {A E : Int} {D : ByteArray} {kv lv : Value} {ks : List ByteArray} : (VT.mk A E D kv lv ks l).v.deep (d + 1) = l.any (fun x => x.v.deep d) := by
 rw [VT.v_eq, as4]
 show (l.map VT.v).any (V.deep d) = _
 rw [List.any_map]; rfl
theorem am9 (t : VT) : ∀ (P : Nat → Prop) (w : World) (d : Nat), Rd P w t → d ≤ 1000000 → Calls prog 129 #[t.arg, .int .i64 d] w fun e w' => e = .returned (.bool (t.v.deep d)) ∧ Below w.heap.size w w' := by
 induction t using VT.ind with
 | h t ih =>
  intro P w d A hd; have am := A; obtain ⟨E, G, K, N, J, O, M, ks, l, rfl, hK, hL, a0, bb⟩ := A.open; rw [VT.arg_mk]; have ab : ∀ x ∈ l, Rd P w x := A.sub
  have ai : ∀ x ∈ l, ∀ (P : Nat → Prop) (w : World) (d : Nat), Rd P w x → d ≤ 1000000 → Calls prog 129 #[x.arg, .int .i64 d] w fun e w' => e = .returned (.bool (x.v.deep d)) ∧ Below w.heap.size w w' := ih
  have an := qq ai; have aj := qq ab; have ao : 0 ≤ G := A.n0; have aq : 0 ≤ E := A.k0; have ar : E < 256 := A.k1; clear ih ai ab A am; have Y := (qz w.heap.size w).alloc (qj _) (.cells #[.int .u8 E, .int .u64 G, .string K, .slice N ks.length J, .slice O l.length M] 56); have b0 := Blk.new w [.int .u8 E, .int .u64 G, .string K, .slice N ks.length J, .slice O l.length M] 56; have c4 := b0.at 4 rfl
  cases d with
  | zero =>
   have hz : (VT.mk E G K (.slice N ks.length J) (.slice O l.length M) ks l).v.deep 0 = true := by unfold V.deep; rfl
   rw [hz]; clear hz; go_enter func129, ntmps129; go_wp2; go_ret; exact ⟨rfl, Y⟩
  | succ d =>
   rw [ah0]; obtain ⟨af, U⟩ := qx (l.any (fun x => x.v.deep d)); have aa := qq U; rw [U]; clear U; have ak : (((d + 1 : Nat) : Int) == 0) = false := ju.2 (by omega); obtain ⟨n, hn⟩ : ∃ n : Int, n = ((d + 1 : Nat) : Int) := ⟨_, rfl⟩
   rw [← hn] at ak ⊢; have al := qq (show n - 1 = (d : Int) by omega); have au : 1 ≤ n := by omega
   have ax : n ≤ 1000000 := by omega
   clear hn; go_enter func129, ntmps129; go_wp2; go_loopw [5] (fun s5 wr => ∃ k : Nat, k ≤ l.length ∧ s5 = .int .i64 k ∧ Hid (∀ j, (h : j < l.length) → j < k → l[j].v.deep d = false) ∧ Blk wr w.heap.size [.int .u8 E, .int .u64 G, .string K, .slice N ks.length J, .slice O l.length M] ∧ Below w.heap.size w wr) (fun s5 _ => l.length - (intOf s5).toNat)
   case atStart => exact ⟨0, by omega, rfl, qq (fun j h h0 => jp h0 (by omega)), b0, Y⟩
   case round =>
    clear c4 b0 Y; obtain ⟨k, hk, rfl, ae, b, D⟩ := hrel; have c4 := b.at 4 rfl; by_cases F : k < l.length
    ·have h1 : (k : Int) < (l.length : Int) := by omega
     have ad := hL.pure D; obtain ⟨g, off, rfl⟩ := ad.addrB F; have ac := (aj.out l[k] (qy F)).pure D; obtain ⟨xk, xn, xs, av, az, ay, a1, bc, aw, ba, xl, I, q0, q1, q2, q3, q4⟩ := ae4 ad F ac; have hi := an.out l[k] (qy F) P _ d ac (by omega); obtain ⟨r, Z⟩ := qx (l[k].v.deep d); rw [Z, I, VT.arg_mk] at hi; rw [← al.out] at hi; have ah := qq Z; have ag := qq hi; clear hi Z I; cases r
     ·go_wp2_with (go_at_call 129; (with_reducible refine ag.out.mono ?_); rintro e w1 ⟨rfl, H⟩; have X := D.trans (H.mono D.size))
      go_roundw
      case rel => exact ⟨k + 1, by omega, by go_num, qq (fun j h h0 => by
       rcases Nat.lt_or_ge j k with h' | h'
       ·exact ae.out j h h'
       ·obtain rfl : j = k := by omega
        exact ah.out), b.pure H, X⟩
      case measure => simp [intOf]; omega
     ·have W := qq (show af = true by rw [← aa.out]; exact List.any_eq_true.2 ⟨_, qy F, ah.out⟩)
      go_wp2_with (go_at_call 129; (with_reducible refine ag.out.mono ?_); rintro e w1 ⟨rfl, H⟩; have X := D.trans (H.mono D.size)); go_ret; exact ⟨by rw [W.out]; rfl, X⟩
    ·obtain rfl : k = l.length := by omega
     have W := qq (show af = false by
      rw [← aa.out]; refine List.any_eq_false.2 (fun x I => ?_); obtain ⟨j, hj, rfl⟩ := List.getElem_of_mem I
      simp [ae.out j hj hj])
     go_wp2; go_ret; exact ⟨by rw [W.out]; rfl, D⟩
theorem as5 (t : VT) : ∀ (P : Nat → Prop) (w : World) (n : Int), Rd P w t → 0 ≤ n → n ≤ 1000000 → Calls prog 209 #[t.arg, .int .i64 n] w fun e w' => e = .returned (.int .i64 (t.v.cnt n)) ∧ Below w.heap.size w w' := by
 induction t using VT.ind with
 | h t ih =>
  intro P w n A bh ba; have ax := A; obtain ⟨G, H, U, Y, O, la, W, ks, l, rfl, hK, hL, bd, bg⟩ := A.open; rw [VT.arg_mk]; have aa : ∀ x ∈ l, Rd P w x := A.sub
  have am : ∀ x ∈ l, ∀ (P : Nat → Prop) (w : World) (n : Int), Rd P w x → 0 ≤ n → n ≤ 1000000 → Calls prog 209 #[x.arg, .int .i64 n] w fun e w' => e = .returned (.int .i64 (x.v.cnt n)) ∧ Below w.heap.size w w' := ih
  have ay := qq am; have ao := qq aa; have az : 0 ≤ H := A.n0; have a0 : 0 ≤ G := A.k0; have a1 : G < 256 := A.k1; clear ih am aa A ax; have al := (qz w.heap.size w).alloc (qj _) (.cells #[.int .u8 G, .int .u64 H, .string U, .slice Y ks.length O, .slice la l.length W] 56); have b0 := Blk.new w [.int .u8 G, .int .u64 H, .string U, .slice Y ks.length O, .slice la l.length W] 56; have c4 := b0.at 4 rfl; rw [ayf]; obtain ⟨F, I⟩ := qx (V.cntL ((VT.mk G H U (.slice Y ks.length O) (.slice la l.length W) ks l).l.map VT.v) (n - 1)); have aq : Hid (V.cntL (l.map VT.v) (n - 1) = F) := qq I; rw [I]; clear I; go_enter func209, ntmps209; go_wp2; go_loopw [1, 12] (fun s1 Z wr => ∃ (k : Nat) (m : Int), k ≤ l.length ∧ Z = .int .i64 k ∧ s1 = .int .i64 m ∧ -1 ≤ m ∧ m ≤ n ∧ Hid (V.cntL ((l.map VT.v).drop k) m = F) ∧ Below w.heap.size w wr) (fun _ Z _ => l.length - (intOf Z).toNat)
  case atStart => exact ⟨0, n - 1, by omega, rfl, rfl, by omega, by omega, aq, al⟩
  case round =>
   clear c4 b0 al; obtain ⟨k, m, hk, rfl, rfl, bb, bc, M, D⟩ := hrel; by_cases E : k < l.length
   ·have h1 : (k : Int) < (l.length : Int) := by omega
    have ad := hL.pure D; obtain ⟨g, off, rfl⟩ := ad.addrB E; have ac := (ao.out l[k] (qy E)).pure D; obtain ⟨xk, xn, xs, ae, aj, ah, ak, an, af, bf, xl, N, q0, q1, q2, q3, q4⟩ := ae4 ad E ac; by_cases ab : m < 0
    ·have J := qq (show m = F by rw [← M.out, apx _ ab])
     clear N; go_wp2; go_ret; exact ⟨by rw [J.out]; rfl, (D.alloc D.size _)⟩
    ·have X : 0 ≤ m := by omega
     have K := (qz wr.heap.size wr).alloc (qj _) (.cells #[.int .u8 xk, .int .u64 xn, .string xs, .slice ae aj ah, .slice ak an af] 56); have be := Blk.new wr [.int .u8 xk, .int .u64 xn, .string xs, .slice ae aj ah, .slice ak an af] 56; obtain ⟨e0, e1, e2, e3, e4⟩ := be.a5; have hi := ay.out l[k] (qy E) P _ m (ac.pure K) X (by omega); have ai := aye l[k].v m X; have ar := ak2 l[k].v m; have ag := qq (show V.cntL ((l.map VT.v).drop (k + 1)) (l[k].v.cnt m) = F by rw [← M.out, am7 (by simpa using E) X, zq]); obtain ⟨y, hy⟩ := qx (l[k].v.cnt m); rw [hy, N, VT.arg_mk] at hi; rw [hy] at ai ar ag; have aw := qq hi; clear hi N hy ab; go_wp2_with (go_at_call 209; (with_reducible refine aw.out.mono ?_); rintro e w1 ⟨rfl, av⟩; have au := D.trans ((K.trans (av.mono K.size)).mono D.size)); go_roundw
     case rel => exact ⟨k + 1, y, by omega, by go_num, rfl, ai, by omega, ag, au⟩
     case measure => simp [intOf]; omega
   ·obtain rfl : k = l.length := by omega
    have J := qq (show m = F by rw [← M.out, am8 (by simp)]); go_wp2; go_ret; exact ⟨by rw [J.out]; rfl, D⟩
theorem adu {P : Prop} (h : P := by
 by_cases hk : k < L.length
 ·rw [qp hk]; exact List.any_eq_true.2 ⟨_, qy hk, h2 hk⟩
 ·rw [qg hk]
  refine List.any_eq_false.2 (fun x hx => ?_); obtain ⟨j, hj, rfl⟩ := List.getElem_of_mem hx
  simp [h1 j hj (by omega)]) : P := h
theorem agz {L : List VT} {p : VT → Bool} (k : Nat) (h1 : ∀ j, (h : j < L.length) → j < k → p L[j] = false) (h2 : (h : k < L.length) → p L[k] = true) : L.any p = decide (k < L.length) := by
 exact adu
theorem ac8 {P : Prop} (h : P := by
 go_roundw
 case rel => exact ⟨k + 1, by omega, by go_num, qq (fun j h h0 => by
  rcases Nat.lt_or_ge j k with h' | h'
  ·exact hno.out j h h'
  ·obtain rfl : j = k := by omega
   exact hbh.out), hB2⟩
 case measure => simp [intOf]; omega) : P := h
theorem as6 (w : World) (M : Option Addr) (J : Nat) (L : List VT) (P : Nat → Prop) (p : VT → Bool) (q : Nat) (X : Slc ac6 5 w (.slice M L.length J) L) (ad : (L.length : Int) ≤ 9223372036854775807) (O : Hid (∀ x ∈ L, Rd P w x)) (N : Hid (∀ x ∈ L, ∀ u : World, Below w.heap.size w u → Calls prog 215 #[x.arg, .pointer (some ⟨q, 0, none⟩)] u fun e Y => e = .returned (.bool (p x)) ∧ Below u.heap.size u Y)) :
 Calls prog 221 #[.slice M L.length J, .func (.func 215) #[] #[.pointer (some ⟨q, 0, none⟩)]] w fun e w' => (∃ r : Int, e = .returned (.int .i64 r) ∧ decide (0 ≤ r) = L.any p) ∧ Below w.heap.size w w' := by
 go_enter func221, ntmps221
 go_wp2
 go_loopw [8] (fun G wr => ∃ k : Nat, k ≤ L.length ∧ G = .int .i64 k ∧ Hid (∀ j, (h : j < L.length) → j < k → p L[j] = false) ∧ Below w.heap.size w wr) (fun G _ => L.length - (intOf G).toNat)
 case atStart => exact ⟨0, by omega, rfl, qq (fun j h h0 => jp h0 (by omega)), qz _ _⟩
 case round =>
  obtain ⟨k, hk, rfl, hno, A⟩ := hrel; by_cases D : k < L.length
  ·have I := X.pure A
   obtain ⟨g, off, rfl⟩ := I.addrB D; have U := (O.out L[k] (qy D)).pure A; obtain ⟨xk, xn, xs, Z, af, ae, ab, ag, aa, ac, xl, K, q0, q1, q2, q3, q4⟩ := ae4 I D U; have hi := N.out L[k] (qy D) wr A; obtain ⟨b, F⟩ := qx (p L[k]); rw [F, K, VT.arg_mk] at hi; have H := qq hi; have hbh := qq F; clear hi F K; have h1 : (k : Int) < (L.length : Int) := by omega
   cases b
   ·go_wp2_with (go_at_call 215; (with_reducible refine H.out.mono ?_); rintro e W ⟨rfl, E⟩; have hB2 := A.trans (E.mono A.size))
    exact ac8
   ·go_wp2_with (go_at_call 215; (with_reducible refine H.out.mono ?_); rintro e W ⟨rfl, E⟩; have hB2 := A.trans (E.mono A.size))
    go_ret; exact ⟨⟨k, rfl, by rw [agz k hno.out (fun _ => hbh.out), qp D]; simp⟩, hB2⟩
  ·obtain rfl : k = L.length := by omega
   go_wp2; go_ret; exact ⟨⟨-1, rfl, by rw [agz L.length hno.out (fun h => jp h D), qg D]; decide⟩, A⟩
theorem as7 (w : World) (D : Option Addr) (A : Nat) (L : List VT) (P : Nat → Prop) (p : VT → Bool) (q : Nat) (J : Slc ac6 5 w (.slice D L.length A) L) (G : (L.length : Int) ≤ 9223372036854775807) (F : Hid (∀ x ∈ L, Rd P w x)) (E : Hid (∀ x ∈ L, ∀ u : World, Below w.heap.size w u → Calls prog 215 #[x.arg, .pointer (some ⟨q, 0, none⟩)] u fun e K => e = .returned (.bool (p x)) ∧ Below u.heap.size u K)) :
 Calls prog 214 #[.slice D L.length A, .func (.func 215) #[] #[.pointer (some ⟨q, 0, none⟩)]] w fun e w' => e = .returned (.bool (L.any p)) ∧ Below w.heap.size w w' := by
 go_enter func214, ntmps214
 go_wp2_with (go_at_call 221; (with_reducible refine (as6 w D A L P p q J G F E).mono ?_); rintro e M ⟨⟨r, rfl, I⟩, H⟩)
 go_ret
 exact ⟨by rw [← I]; rfl, H⟩
theorem ah1 {L : List VT} {p : VT → Bool} (k : Nat) (h1 : ∀ j, (h : j < L.length) → j < k → p L[j] = false) (h2 : (h : k < L.length) → p L[k] = true) : L.any p = decide (k < L.length) := by
 exact adu
theorem av7 (w : World) (M : Option Addr) (J : Nat) (L : List VT) (P : Nat → Prop) (p : VT → Bool) (X : Slc ac6 5 w (.slice M L.length J) L) (ad : (L.length : Int) ≤ 9223372036854775807) (O : Hid (∀ x ∈ L, Rd P w x)) (N : Hid (∀ x ∈ L, ∀ u : World, Below w.heap.size w u → Calls prog 218 #[x.arg] u fun e Y => e = .returned (.bool (p x)) ∧ Below u.heap.size u Y)) :
 Calls prog 221 #[.slice M L.length J, .func (.func 218) #[] #[]] w fun e w' => (∃ r : Int, e = .returned (.int .i64 r) ∧ decide (0 ≤ r) = L.any p) ∧ Below w.heap.size w w' := by
 go_enter func221, ntmps221
 go_wp2
 go_loopw [8] (fun G wr => ∃ k : Nat, k ≤ L.length ∧ G = .int .i64 k ∧ Hid (∀ j, (h : j < L.length) → j < k → p L[j] = false) ∧ Below w.heap.size w wr) (fun G _ => L.length - (intOf G).toNat)
 case atStart => exact ⟨0, by omega, rfl, qq (fun j h h0 => jp h0 (by omega)), qz _ _⟩
 case round =>
  obtain ⟨k, hk, rfl, hno, A⟩ := hrel; by_cases D : k < L.length
  ·have I := X.pure A
   obtain ⟨g, off, rfl⟩ := I.addrB D; have U := (O.out L[k] (qy D)).pure A; obtain ⟨xk, xn, xs, Z, af, ae, ab, ag, aa, ac, xl, K, q0, q1, q2, q3, q4⟩ := ae4 I D U; have hi := N.out L[k] (qy D) wr A; obtain ⟨b, F⟩ := qx (p L[k]); rw [F, K, VT.arg_mk] at hi; have H := qq hi; have hbh := qq F; clear hi F K; have h1 : (k : Int) < (L.length : Int) := by omega
   cases b
   ·go_wp2_with (go_at_call 218; (with_reducible refine H.out.mono ?_); rintro e W ⟨rfl, E⟩; have hB2 := A.trans (E.mono A.size))
    exact ac8
   ·go_wp2_with (go_at_call 218; (with_reducible refine H.out.mono ?_); rintro e W ⟨rfl, E⟩; have hB2 := A.trans (E.mono A.size))
    go_ret; exact ⟨⟨k, rfl, by rw [ah1 k hno.out (fun _ => hbh.out), qp D]; simp⟩, hB2⟩
  ·obtain rfl : k = L.length := by omega
   go_wp2; go_ret; exact ⟨⟨-1, rfl, by rw [ah1 L.length hno.out (fun h => jp h D), qg D]; decide⟩, A⟩
theorem ap6 (w : World) (D : Option Addr) (A : Nat) (L : List VT) (P : Nat → Prop) (p : VT → Bool) (J : Slc ac6 5 w (.slice D L.length A) L) (G : (L.length : Int) ≤ 9223372036854775807) (F : Hid (∀ x ∈ L, Rd P w x)) (E : Hid (∀ x ∈ L, ∀ u : World, Below w.heap.size w u → Calls prog 218 #[x.arg] u fun e K => e = .returned (.bool (p x)) ∧ Below u.heap.size u K)) :
 Calls prog 214 #[.slice D L.length A, .func (.func 218) #[] #[]] w fun e w' => e = .returned (.bool (L.any p)) ∧ Below w.heap.size w w' := by
 go_enter func214, ntmps214
 go_wp2_with (go_at_call 221; (with_reducible refine (av7 w D A L P p J G F E).mono ?_); rintro e M ⟨⟨r, rfl, I⟩, H⟩)
 go_ret
 exact ⟨by rw [← I]; rfl, H⟩
theorem as8 (t : VT) : ∀ (P : Nat → Prop) (w : World) (d : Nat), Rd P w t → d ≤ 1000000 → Calls prog 208 #[t.arg, .int .i64 d] w fun e w' => e = .returned (.bool (t.v.deep d)) ∧ Below w.heap.size w w' := by
 induction t using VT.ind with
 | h t ih =>
  intro P w d G hd; have ao := G; obtain ⟨A, E, I, J, H, F, D, ks, l, rfl, hK, hL, ba, ar⟩ := G.open; rw [VT.arg_mk]; have af : ∀ x ∈ l, Rd P w x := G.sub
  have ak : ∀ x ∈ l, ∀ (P : Nat → Prop) (w : World) (d : Nat), Rd P w x → d ≤ 1000000 → Calls prog 208 #[x.arg, .int .i64 d] w fun e w' => e = .returned (.bool (x.v.deep d)) ∧ Below w.heap.size w w' := ih
  have aq := qq ak; have ad := qq af; have av : 0 ≤ E := G.n0; have aw : 0 ≤ A := G.k0; have ax : A < 256 := G.k1; clear ih ak af G ao; have X := (qz w.heap.size w).alloc (qj _) (.cells #[.int .u8 A, .int .u64 E, .string I, .slice J ks.length H, .slice F l.length D] 56); have b0 := Blk.new w [.int .u8 A, .int .u64 E, .string I, .slice J ks.length H, .slice F l.length D] 56
  cases d with
  | zero =>
   have hz : (VT.mk A E I (.slice J ks.length H) (.slice F l.length D) ks l).v.deep 0 = true := by unfold V.deep; rfl
   rw [hz]; clear hz; go_enter func208, ntmps208; go_wp2; go_ret; exact ⟨rfl, X.alloc X.size _⟩
  | succ d =>
   rw [ah0]; obtain ⟨n, hn⟩ : ∃ n : Int, n = ((d + 1 : Nat) : Int) := ⟨_, rfl⟩
   have az : (n == 0) = false := ju.2 (by omega); rw [← hn]; have am := qq (show n - 1 = (d : Int) by omega); have ay : 1 ≤ n := by omega
   have a0 : n ≤ 1000000 := by omega
   clear hn; have b1 := b0.alloc (.cells #[.int .i64 n] 3); have M := X.alloc X.size (.cells #[.int .i64 n] 3); have bq : Blk ((w.alloc (.cells #[.int .u8 A, .int .u64 E, .string I, .slice J ks.length H, .slice F l.length D] 56)).alloc (.cells #[.int .i64 n] 3)) (w.heap.size + 1) [.int .i64 n] := by have := Blk.new (w.alloc (.cells #[.int .u8 A, .int .u64 E, .string I, .slice J ks.length H, .slice F l.length D] 56)) [.int .i64 n] 3; simpa using this
   have c4 := b1.at 4 rfl; have d0 := bq.at 0 rfl; have au := hL.pure M
   have ac : Hid (∀ x ∈ l, ∀ u : World, Below ((w.alloc (.cells #[.int .u8 A, .int .u64 E, .string I, .slice J ks.length H, .slice F l.length D] 56)).alloc (.cells #[.int .i64 n] 3)).heap.size ((w.alloc (.cells #[.int .u8 A, .int .u64 E, .string I, .slice J ks.length H, .slice F l.length D] 56)).alloc (.cells #[.int .i64 n] 3)) u → Calls prog 215 #[x.arg, .pointer (some ⟨w.heap.size + 1, 0, none⟩)] u fun e u' => e = .returned (.bool (x.v.deep d)) ∧ Below u.heap.size u u') := qq (fun x Z u hu => by
    have ah := ((ad.out x Z).pure M).pure hu; obtain ⟨yk, yn, ys, U, Y, W, O, K, N, rfl, -, -, -, -⟩ := ah.open; have hi := aq.out _ Z P (u.alloc (.cells #[.int .u8 yk, .int .u64 yn, .string ys, .slice U K.length Y, .slice W N.length O] 56)) d (ah.pure ((qz _ _).alloc (qj _) _)) (by omega); rw [← am.out] at hi; obtain ⟨r, hr⟩ := qx ((VT.mk yk yn ys (.slice U K.length Y) (.slice W N.length O) K N).v.deep d); rw [hr, VT.arg_mk] at hi; rw [hr, VT.arg_mk]; have an := qq hi; have bx := Blk.new u [.int .u8 yk, .int .u64 yn, .string ys, .slice U K.length Y, .slice W N.length O] 56; have aa := (qz u.heap.size u).alloc (qj _) (.cells #[.int .u8 yk, .int .u64 yn, .string ys, .slice U K.length Y, .slice W N.length O] 56); have ag := (bq.pure hu).pure aa; have f0 := ag.at 0 rfl; obtain ⟨e0, e1, e2, e3, e4⟩ := bx.a5; clear hi hr bq ag bx; go_enter func215, ntmps215; go_wp2_with (go_at_call 208; (with_reducible refine an.out.mono ?_); rintro e w1 ⟨rfl, ab⟩); go_ret
    exact ⟨rfl, aa.trans (ab.mono aa.size)⟩)
   have al := qq (fun x Z => (ad.out x Z).pure M); have bb : ∀ (fn : Fn) (first aj : Array Value) (w : World), (Instr.makeFunc fn first aj).run prog w = .ok (.func fn first aj) w := fun _ _ _ _ => rfl
   have ai := qq (as7 _ F D l P (fun x => x.v.deep d) _ au ar al ac); clear ac bq b1; obtain ⟨a1, ae⟩ := qx (l.any (fun x => x.v.deep d)); rw [ae] at ai ⊢; clear ae; go_enter func208, ntmps208; go_wp2_with (go_at_call 214; (with_reducible refine ai.out.mono ?_); rintro e w1 ⟨rfl, ab⟩); go_ret; exact ⟨rfl, M.trans (ab.mono M.size)⟩
theorem av8 (l : List VT) : V.mayL (l.map VT.v) = !(l.any (fun x => !x.v.may)) := by
 induction l with
 | nil => rfl
 | cons x xs ih =>
  rw [List.map_cons]; unfold V.mayL; rw [ih, List.any_cons, Bool.not_or, Bool.not_not]
theorem ayg {A E : Int} {D : ByteArray} {kv lv : Value} {ks : List ByteArray} {l : List VT} : (VT.mk A E D kv lv ks l).v.may = (aaw A E D ks l.length && V.mayL (l.map VT.v)) := by
 rw [VT.v_eq]; conv => lhs; unfold V.may
 show (aaw A E D ks (l.map VT.v).length && V.mayL (l.map VT.v)) = _
 rw [jf]
theorem ay3 {k : Int} (h : k ≠ 240 ∧ k ≠ 8 ∧ k ≠ 2 ∧ k ≠ 49 ∧ k ≠ 50 ∧ k ≠ 149 ∧ k ≠ 160 ∧ k ≠ 168 ∧ k ≠ 169) (n : Int) (s : ByteArray) (ks : List ByteArray) (len : Nat) : aaw k n s ks len = false := by
 rw [Bool.eq_false_iff]; intro e
 rcases adg e with A | A | A | A | A | A | A | A <;> omega
theorem ay4 (t : VT) : ∀ (P : Nat → Prop) (w : World), Rd P w t → Tb w → Calls prog 210 #[t.arg] w fun e w' => e = .returned (.bool t.v.may) ∧ Below w.heap.size w w' := by
 induction t using VT.ind with
 | h t ih =>
  intro P w  hR hT; have b8 := hR; obtain ⟨E, M, G, ka, kc, la, lc, ks, l, rfl, hK, hL, bw, bj⟩ := hR.open; rw [VT.arg_mk]; have bg : ∀ x ∈ l, Rd P w x := hR.sub
  have bm : ∀ x ∈ l, ∀ (P : Nat → Prop) (w : World), Rd P w x → Tb w → Calls prog 210 #[x.arg] w fun e w' => e = .returned (.bool x.v.may) ∧ Below w.heap.size w w' := ih
  have b2 := qq bm; have bn := qq bg; have cd : 0 ≤ M := hR.n0; have ce : 0 ≤ E := hR.k0; have cg : E < 256 := hR.k1; clear ih bm bg hR b8; have F := (qz w.heap.size w).alloc (qj _) (.cells #[.int .u8 E, .int .u64 M, .string G, .slice ka ks.length kc, .slice la l.length lc] 56); have b0 := Blk.new w [.int .u8 E, .int .u64 M, .string G, .slice ka ks.length kc, .slice la l.length lc] 56; obtain ⟨c0, c1, c2, c3, c4⟩ := b0.a5; rw [ayg]; obtain ⟨I, ay⟩ := qx (aaw E M G ks l.length && V.mayL (l.map VT.v)); rw [ay]; have H := qq ay; clear ay; have bp : (ks.length : Int) = 0 ∨ 0 < (ks.length : Int) := by omega
  have bo : (l.length : Int) = 0 ∨ 0 < (l.length : Int) := by omega
  have bc := qq (hT.pure F); clear hT bp bo; have ba := hL.pure F; have b1 := hK.pure F; have aw := qq (fun x hx => (bn.out x hx).pure F)
  have av : Hid (∀ x ∈ l, ∀ u : World, Below (w.alloc (.cells #[.int .u8 E, .int .u64 M, .string G, .slice ka ks.length kc, .slice la l.length lc] 56)).heap.size (w.alloc (.cells #[.int .u8 E, .int .u64 M, .string G, .slice ka ks.length kc, .slice la l.length lc] 56)) u → Calls prog 218 #[x.arg] u fun e u' => e = .returned (.bool (!x.v.may)) ∧ Below u.heap.size u u') := qq (fun x hx u X => by
   have bi := (aw.out x hx).pure X; obtain ⟨yk, yn, ys, ak, au, al, ao, ae, yl, rfl, -, -, -, -⟩ := bi.open; have an := (qz u.heap.size u).alloc (qj _) (.cells #[.int .u8 yk, .int .u64 yn, .string ys, .slice ak ae.length au, .slice al yl.length ao] 56); have hi := b2.out _ hx P (u.alloc (.cells #[.int .u8 yk, .int .u64 yn, .string ys, .slice ak ae.length au, .slice al yl.length ao] 56)) (bi.pure an) ((bc.out.pure X).pure an); obtain ⟨r, hr⟩ := qx ((VT.mk yk yn ys (.slice ak ae.length au) (.slice al yl.length ao) ae yl).v.may); rw [hr, VT.arg_mk] at hi; rw [hr, VT.arg_mk]; have b7 := qq hi; have bx := Blk.new u [.int .u8 yk, .int .u64 yn, .string ys, .slice ak ae.length au, .slice al yl.length ao] 56; obtain ⟨e0, J, e2, e3, e4⟩ := bx.a5; clear hi hr bx; go_enter func218, ntmps218; go_wp2_with (go_at_call 210; (with_reducible refine b7.out.mono ?_); rintro e w1 ⟨rfl, b4⟩); go_ret
   exact ⟨rfl, an.trans (b4.mono an.size)⟩)
  have bh := qq (fun (u : World) (X : Below (w.alloc (.cells #[.int .u8 E, .int .u64 M, .string G, .slice ka ks.length kc, .slice la l.length lc] 56)).heap.size (w.alloc (.cells #[.int .u8 E, .int .u64 M, .string G, .slice ka ks.length kc, .slice la l.length lc] 56)) u) => ap6 u la lc l P (fun x => !x.v.may) (ba.pure X) bj (qq (fun x hx => (aw.out x hx).pure X)) (qq (fun x hx v hv => av.out x hx v (X.trans (hv.mono X.size))))); have bb := b0; have a1 := ap6 _ la lc l P (fun x => !x.v.may) ba bj aw av; have a0 := av8 l; obtain ⟨q, hq⟩ := qx (l.any (fun x => !x.v.may)); rw [hq] at a1 a0 bh; have bu := qq a1; have bf := qq a0; clear av a1 hq a0 ba b0; have N : G.size = 0 ∨ G.size ≠ 0 := by omega
  by_cases k1 : E ≠ 168 ∧ 0 < ks.length
  ·obtain ⟨k1, k2⟩ := k1
   have k3 : (E != 168) = true := bne_iff_ne.2 k1; have k5 : ks ≠ [] := fun e => by rw [e] at k2; simp at k2
   clear N; have D := qq (show I = false by rw [← H.out]; have : (E == 168) = false := ju.2 k1; have h2 : ks.isEmpty = false := (by rw [Bool.eq_false_iff, ne_eq, List.isEmpty_iff]; exact k5); unfold aaw; rw [this, h2]; rfl); go_enter func210, ntmps210; go_wp2; go_ret; exact ⟨by rw [D.out]; rfl, F⟩
  by_cases k2 : (E ≠ 168 ∧ E ≠ 169) ∧ 0 < l.length
  ·obtain ⟨⟨k2, k3⟩, k4⟩ := k2
   have k5 : (E != 168) = true := bne_iff_ne.2 k2; have k6 : (E != 169) = true := bne_iff_ne.2 k3; have bl : ks.length = 0 := by omega
   obtain rfl : ks = [] := List.length_eq_zero_iff.1 bl; clear N k1 bl; have D := qq (show I = false by rw [← H.out]; have h1 : (E == 168) = false := ju.2 k2; have h2 : (E == 169) = false := ju.2 k3; have h3 : (l.length == 0) = false := ju.2 (by omega); unfold aaw; rw [h1, h2, h3]; simp); go_enter func210, ntmps210; go_wp2; go_ret; exact ⟨by rw [D.out]; rfl, F⟩
  have O : E ≠ 168 → ks = [] := fun h => List.length_eq_zero_iff.1 (by omega)
  have U : E ≠ 168 → E ≠ 169 → l = [] := fun h h' => List.length_eq_zero_iff.1 (by omega)
  clear k1 k2; by_cases ah : E = 240
  ·subst ah
   obtain rfl := O (by omega); obtain rfl := U (by omega) (by omega); clear O U; by_cases K : M = 0
   ·subst K
    rcases N with A | A
    ·have J : G.toList = [] := acs A
     have D := qq (show I = true by rw [← H.out]; simp [aaw, A, V.mayL]); clear A; go_enter func210, ntmps210; go_wp2; go_ret; exact ⟨by rw [D.out]; rfl, F⟩
    ·have J : G.toList.isEmpty = false := adh A
     have e2 : ¬ G.toList = [] := fun h => by rw [h] at J; cases J
     have D := qq (show I = false by rw [← H.out]; simp [aaw, A]); clear A; go_enter func210, ntmps210; go_wp2; go_ret; exact ⟨by rw [D.out]; rfl, F⟩
   ·have ad : (M == 0) = false := ju.2 K
    have D := qq (show I = false by rw [← H.out]; simp [aaw, K]); clear N; go_enter func210, ntmps210; go_wp2; go_ret; exact ⟨by rw [D.out]; rfl, F⟩
  by_cases q8 : E = 8
  ·subst q8
   obtain rfl := O (by omega); obtain rfl := U (by omega) (by omega); clear O U; by_cases K : M ≤ 1
   ·skip
    rcases N with A | A
    ·have J : G.toList = [] := acs A
     have D := qq (show I = true by rw [← H.out]; simp [aaw, A, K, V.mayL]); clear A; go_enter func210, ntmps210; go_wp2; go_ret; exact ⟨by rw [D.out]; rfl, F⟩
    ·have J : G.toList.isEmpty = false := adh A
     have e2 : ¬ G.toList = [] := fun h => by rw [h] at J; cases J
     have D := qq (show I = false by rw [← H.out]; simp [aaw, A]); clear A; go_enter func210, ntmps210; go_wp2; go_ret; exact ⟨by rw [D.out]; rfl, F⟩
   ·have ad : 1 < M := by omega
    have D := qq (show I = false by rw [← H.out]; simp [aaw, K]); clear N; go_enter func210, ntmps210; go_wp2; go_ret; exact ⟨by rw [D.out]; rfl, F⟩
  by_cases q2 : E = 2
  ·subst q2
   obtain rfl := O (by omega); obtain rfl := U (by omega) (by omega); clear O U; by_cases K : M ≤ 255
   ·skip
    rcases N with A | A
    ·have J : G.toList = [] := acs A
     have D := qq (show I = true by rw [← H.out]; simp [aaw, A, K, V.mayL]); clear A; go_enter func210, ntmps210; go_wp2; go_ret; exact ⟨by rw [D.out]; rfl, F⟩
    ·have J : G.toList.isEmpty = false := adh A
     have e2 : ¬ G.toList = [] := fun h => by rw [h] at J; cases J
     have D := qq (show I = false by rw [← H.out]; simp [aaw, A]); clear A; go_enter func210, ntmps210; go_wp2; go_ret; exact ⟨by rw [D.out]; rfl, F⟩
   ·have ad : 255 < M := by omega
    have D := qq (show I = false by rw [← H.out]; simp [aaw, K]); clear N; go_enter func210, ntmps210; go_wp2; go_ret; exact ⟨by rw [D.out]; rfl, F⟩
  by_cases am : E = 49
  ·subst am
   obtain rfl := O (by omega); obtain rfl := U (by omega) (by omega); clear O U; rcases N with A | A
   ·have J : G.toList = [] := acs A
    have D := qq (show I = true by rw [← H.out]; simp [aaw, A, V.mayL]); clear A; go_enter func210, ntmps210; go_wp2; go_ret; exact ⟨by rw [D.out]; rfl, F⟩
   ·have J : G.toList.isEmpty = false := adh A
    have e2 : ¬ G.toList = [] := fun h => by rw [h] at J; cases J
    have D := qq (show I = false by rw [← H.out]; simp [aaw, A]); clear A; go_enter func210, ntmps210; go_wp2; go_ret; exact ⟨by rw [D.out]; rfl, F⟩
  by_cases aq : E = 50
  ·subst aq
   obtain rfl := O (by omega); obtain rfl := U (by omega) (by omega); clear O U; rcases N with A | A
   ·have J : G.toList = [] := acs A
    have D := qq (show I = true by rw [← H.out]; simp [aaw, A, V.mayL]); clear A; go_enter func210, ntmps210; go_wp2; go_ret; exact ⟨by rw [D.out]; rfl, F⟩
   ·have J : G.toList.isEmpty = false := adh A
    have e2 : ¬ G.toList = [] := fun h => by rw [h] at J; cases J
    have D := qq (show I = false by rw [← H.out]; simp [aaw, A]); clear A; go_enter func210, ntmps210; go_wp2; go_ret; exact ⟨by rw [D.out]; rfl, F⟩
  by_cases ag : E = 149
  ·subst ag
   obtain rfl := O (by omega); obtain rfl := U (by omega) (by omega); clear O U; clear N; by_cases K : M = 0
   rotate_left 1
   ·have ad : (M == 0) = false := ju.2 K
    have D := qq (show I = false by rw [← H.out]; simp [aaw, K]); go_enter func210, ntmps210; go_wp2; go_ret; exact ⟨by rw [D.out]; rfl, F⟩
   subst K; by_cases A : G.size ≤ 4096
   rotate_left 1
   ·have bd : decide ((G.size : Int) ≤ 4096) = false := qg (by omega)
    have D := qq (show I = false by rw [← H.out]; simp [aaw, A]); go_enter func210, ntmps210; go_wp2; go_ret; exact ⟨by rw [D.out]; rfl, F⟩
   have bd : decide ((G.size : Int) ≤ 4096) = true := qp (by omega); have ax := am5 G _ (by omega) bc.out; obtain ⟨u, X⟩ := qx (u8s G); rw [X] at ax; have b6 := qq ax; have D := qq (show I = u by rw [← H.out]; simp [aaw, A, X, V.mayL]); clear ax X; go_enter func210, ntmps210; go_wp2_with (first | (go_at_call 216; refine b6.out.mono ?_; rintro e w1 ⟨rfl, W⟩)); go_ret; exact ⟨by rw [D.out]; rfl, F.trans (W.mono F.size)⟩
  by_cases ai : E = 160
  ·subst ai
   obtain rfl := O (by omega); obtain rfl := U (by omega) (by omega); clear O U; clear N; by_cases K : M = 0
   rotate_left 1
   ·have ad : (M == 0) = false := ju.2 K
    have D := qq (show I = false by rw [← H.out]; simp [aaw, K]); go_enter func210, ntmps210; go_wp2; go_ret; exact ⟨by rw [D.out]; rfl, F⟩
   subst K; by_cases A : G.size ≤ 4096
   rotate_left 1
   ·have bd : decide ((G.size : Int) ≤ 4096) = false := qg (by omega)
    have D := qq (show I = false by rw [← H.out]; simp [aaw, A]); go_enter func210, ntmps210; go_wp2; go_ret; exact ⟨by rw [D.out]; rfl, F⟩
   have bd : decide ((G.size : Int) ≤ 4096) = true := qp (by omega); have D := qq (show I = true by rw [← H.out]; simp [aaw, A, V.mayL]); go_enter func210, ntmps210; go_wp2; go_ret; exact ⟨by rw [D.out]; rfl, F⟩
  by_cases ab : E = 169
  ·subst ab
   obtain rfl := O (by omega); clear O U; by_cases K : M = 0
   rotate_left 1
   ·have ad : (M == 0) = false := ju.2 K
    have D := qq (show I = false by rw [← H.out]; simp [aaw, K]); clear N; go_enter func210, ntmps210; go_wp2; go_ret; exact ⟨by rw [D.out]; rfl, F⟩
   subst K; rcases N with A | A
   rotate_left 1
   ·have J : G.toList.isEmpty = false := adh A
    have e2 : ¬ G.toList = [] := fun h => by rw [h] at J; cases J
    have D := qq (show I = false by rw [← H.out]; simp [aaw, A]); clear A; go_enter func210, ntmps210; go_wp2; go_ret; exact ⟨by rw [D.out]; rfl, F⟩
   have J : G.toList = [] := acs A; have D := qq (show I = !q by rw [← H.out, bf.out]; simp [aaw, A]); clear A; go_enter func210, ntmps210; go_wp2_with (first | (go_at_call 214; refine bu.out.mono ?_; rintro e w1 ⟨rfl, W⟩)); go_ret; exact ⟨by rw [D.out]; rfl, F.trans (W.mono F.size)⟩
  by_cases aa : E = 168
  ·subst aa
   clear O U; by_cases ac : ks.length = l.length
   rotate_left 1
   ·have bq : (ks.length != l.length) = true := bne_iff_ne.2 ac
    have br : ((ks.length : Int) != (l.length : Int)) = true := bne_iff_ne.2 (by omega); have D := qq (show I = false by rw [← H.out]; simp [aaw, ac]); clear N; go_enter func210, ntmps210; go_wp2; go_ret; exact ⟨by rw [D.out]; rfl, F⟩
   have bq : (ks.length != l.length) = false := by rw [ac]; simp
   have br : ((ks.length : Int) != (l.length : Int)) = false := by rw [ac]; simp
   have af := qq ac; have az := as2 _ ka kc ks b1 bw bc.out; obtain ⟨u, X⟩ := qx (ae1 ks); rw [X] at az; have ar := qq az; have aj := qq X; clear az X ac; cases u
   ·have D := qq (show I = false by rw [← H.out]; simp [aaw, af.out, aj.out])
    clear N; go_enter func210, ntmps210; go_wp2_with (first | (go_at_call 217; refine ar.out.mono ?_; rintro e w1 ⟨rfl, W⟩; have Z := F.trans (W.mono F.size); have Y := bb.pure W; have f1 := Y.at 1 rfl; have f2 := Y.at 2 rfl; have f4 := Y.at 4 rfl)); go_ret; exact ⟨by rw [D.out]; rfl, Z⟩
   by_cases K : M = 0
   rotate_left 1
   ·have ad : (M == 0) = false := ju.2 K
    have D := qq (show I = false by rw [← H.out]; simp [aaw, af.out, aj.out, K]); clear N; go_enter func210, ntmps210; go_wp2_with (first | (go_at_call 217; refine ar.out.mono ?_; rintro e w1 ⟨rfl, W⟩; have Z := F.trans (W.mono F.size); have Y := bb.pure W; have f1 := Y.at 1 rfl; have f2 := Y.at 2 rfl; have f4 := Y.at 4 rfl)); go_ret; exact ⟨by rw [D.out]; rfl, Z⟩
   subst K; rcases N with A | A
   rotate_left 1
   ·have J : G.toList.isEmpty = false := adh A
    have e2 : ¬ G.toList = [] := fun h => by rw [h] at J; cases J
    have D := qq (show I = false by rw [← H.out]; simp [aaw, af.out, aj.out, A]); clear A; go_enter func210, ntmps210; go_wp2_with (first | (go_at_call 217; refine ar.out.mono ?_; rintro e w1 ⟨rfl, W⟩; have Z := F.trans (W.mono F.size); have Y := bb.pure W; have f1 := Y.at 1 rfl; have f2 := Y.at 2 rfl; have f4 := Y.at 4 rfl)); go_ret; exact ⟨by rw [D.out]; rfl, Z⟩
   have J : G.toList = [] := acs A; have D := qq (show I = !q by rw [← H.out, bf.out]; simp [aaw, A, af.out, aj.out]); clear A; go_enter func210, ntmps210; go_wp2_with (first | (go_at_call 217; refine ar.out.mono ?_; rintro e w1 ⟨rfl, W⟩; have Z := F.trans (W.mono F.size); have Y := bb.pure W; have f1 := Y.at 1 rfl; have f2 := Y.at 2 rfl; have f4 := Y.at 4 rfl; have bt := qq (bh.out w1 W)) | (go_at_call 214; refine bt.out.mono ?_; rintro e w2 ⟨rfl, b3⟩)); go_ret; exact ⟨by rw [D.out]; rfl, Z.trans (b3.mono Z.size)⟩
  have b5 := qq (show aaw E M G ks l.length = false from ay3 ⟨ah, q8, q2, am, aq, ag, ai, aa, ab⟩ _ _ _ _); obtain rfl := O aa; obtain rfl := U aa ab; have r1 : (E != 168) = true := bne_iff_ne.2 aa; have r2 : (E != 169) = true := bne_iff_ne.2 ab; have cc : (E == 240) = false := ju.2 ah; have s8 : (E == 8) = false := ju.2 q8; have s2 : (E == 2) = false := ju.2 q2; have ci : (E == 49) = false := ju.2 am; have ch : (E == 50) = false := ju.2 aq; have cf : (E == 149) = false := ju.2 ag; have ca : (E == 160) = false := ju.2 ai; have b9 : (E == 168) = false := ju.2 aa; have cb : (E == 169) = false := ju.2 ab; clear O U N ah q8 q2 am aq ag ai aa ab; have D := qq (show I = false by rw [← H.out]; rw [b5.out]; rfl); go_enter func210, ntmps210; go_wp2; go_ret; exact ⟨by rw [D.out]; rfl, F⟩
end Go.Proofs.YtgnaifhmcllnlaaGreatDoor
