/- The document's keys. Conditions: none. (Texts joined.) -/
import Derived.Laws.RangeAny
import Derived.Test.YtlonokcaddpniaaGreatDoorVal
import Derived.Test.YtlonokcaddpniaaGreatDoorKC
import Derived.Shelf.Unicode.DecodeAny
import Derived.Lib.OthersKept
import Derived.Lib.RuneCountTail
import Derived.Test.YtlonokcaddpniaaGreatDoorKA
import Derived.StringKeys
import Derived.Carry
set_option linter.unusedSimpArgs false
set_option linter.unusedVariables false
namespace Go.Proofs.YtlonokcaddpniaaGreatDoor
open Go
def ctA (s : ByteArray) (pos : Nat) (A : Nat → Nat) (k lo hi : Nat) : Bool := decide (pos + k < s.size) && (decide (lo ≤ A k) && decide (A k ≤ hi))
theorem byte_at (s : ByteArray) (k : Nat) (hk : k < s.size) : ∃ (h : k < s.data.toList.length), s.data.toList[k].toNat = (s.get! k).toNat := by
  refine ⟨by rw [ba_len]; exact hk, ?_⟩; have : s.get! k = s.data[k]! := rfl; rw [this, getElem!_pos s.data k hk]; rw [Array.getElem_toList]
theorem ctB_at (s : ByteArray) (pos : Nat) (A : Nat → Nat) (hA : ∀ k, A k = (s.get! (pos + k)).toNat) (k lo hi : Nat) : ctB (s.data.toList.drop (pos + 1)) k lo hi = ctA s pos A (k + 1) lo hi := by
  unfold ctB ctA; rw [List.getElem?_drop]; by_cases hk : pos + (k + 1) < s.size
  · obtain ⟨h1, h2⟩ := byte_at s _ hk; rw [show pos + 1 + k = pos + (k + 1) by omega, List.getElem?_eq_getElem h1]; simp only [h2, hA, hk, decide_true, Bool.true_and]
  · rw [List.getElem?_eq_none (by rw [ba_len]; omega)]; simp [hk]
theorem u8n_at (s : ByteArray) (pos : Nat) (h : pos < s.size) (A : Nat → Nat) (hA : ∀ k, A k = (s.get! (pos + k)).toNat) :
    u8n (s.data.toList.drop pos) =
      (if A 0 < 128 then 1
       else if 194 ≤ A 0 ∧ A 0 ≤ 223 then (if ctA s pos A 1 128 191 then 2 else 0)
       else if 224 ≤ A 0 ∧ A 0 ≤ 239 then (if ctA s pos A 1 (if A 0 = 224 then 160 else 128) (if A 0 = 237 then 159 else 191) && ctA s pos A 2 128 191 then 3 else 0)
       else if 240 ≤ A 0 ∧ A 0 ≤ 244 then (if ctA s pos A 1 (if A 0 = 240 then 144 else 128) (if A 0 = 244 then 143 else 191) && ctA s pos A 2 128 191 && ctA s pos A 3 128 191 then 4 else 0)
       else 0) := by
  obtain ⟨h0, hb0⟩ := byte_at s pos h; have hd : s.data.toList.drop pos = s.data.toList[pos] :: s.data.toList.drop (pos + 1) := List.drop_eq_getElem_cons _; rw [hd]; have hb0' : s.data.toList[pos].toNat = A 0 := by rw [hb0, hA, Nat.add_zero]
  unfold u8n; simp only [ctB_at s pos A hA, hb0']
def D8 (b0 b1 b2 b3 : Nat) (p1 p2 p3 : Prop) [Decidable p1] [Decidable p2] [Decidable p3] : Nat × Nat :=
  if b0 < 128 then (b0, 1)
  else if b0 / 32 = 6 ∧ p1 then (if b0 % 32 * 64 + b1 % 64 ≥ 128 then (b0 % 32 * 64 + b1 % 64, 2) else (65533, 1))
  else if b0 / 16 = 14 ∧ p1 ∧ p2 then (if b0 % 16 * 4096 + b1 % 64 * 64 + b2 % 64 ≥ 2048 ∧ ¬ (55296 ≤ b0 % 16 * 4096 + b1 % 64 * 64 + b2 % 64 ∧ b0 % 16 * 4096 + b1 % 64 * 64 + b2 % 64 ≤ 57343) then (b0 % 16 * 4096 + b1 % 64 * 64 + b2 % 64, 3) else (65533, 1))
  else if b0 / 8 = 30 ∧ p1 ∧ p2 ∧ p3 then (if b0 % 8 * 262144 + b1 % 64 * 4096 + b2 % 64 * 64 + b3 % 64 ≥ 65536 ∧ b0 % 8 * 262144 + b1 % 64 * 4096 + b2 % 64 * 64 + b3 % 64 ≤ 1114111 then (b0 % 8 * 262144 + b1 % 64 * 4096 + b2 % 64 * 64 + b3 % 64, 4) else (65533, 1))
  else (65533, 1)
def U8 (b0 b1 b2 b3 : Nat) (q1 q2 q3 : Prop) [Decidable q1] [Decidable q2] [Decidable q3] : Nat :=
  if b0 < 128 then 1
  else if 194 ≤ b0 ∧ b0 ≤ 223 then (if q1 ∧ 128 ≤ b1 ∧ b1 ≤ 191 then 2 else 0)
  else if 224 ≤ b0 ∧ b0 ≤ 239 then (if (q1 ∧ (if b0 = 224 then 160 else 128) ≤ b1 ∧ b1 ≤ (if b0 = 237 then 159 else 191)) ∧ (q2 ∧ 128 ≤ b2 ∧ b2 ≤ 191) then 3 else 0)
  else if 240 ≤ b0 ∧ b0 ≤ 244 then (if ((q1 ∧ (if b0 = 240 then 144 else 128) ≤ b1 ∧ b1 ≤ (if b0 = 244 then 143 else 191)) ∧ (q2 ∧ 128 ≤ b2 ∧ b2 ≤ 191)) ∧ (q3 ∧ 128 ≤ b3 ∧ b3 ≤ 191) then 4 else 0)
  else 0
set_option maxHeartbeats 4000000 in
theorem D8_U8 (b0 b1 b2 b3 : Nat) (q1 q2 q3 : Prop) [Decidable q1] [Decidable q2] [Decidable q3] (h0 : b0 < 256) :
    (U8 b0 b1 b2 b3 q1 q2 q3 = 0 ∧ D8 b0 b1 b2 b3 (q1 ∧ 128 ≤ b1 ∧ b1 ≤ 191) (q2 ∧ 128 ≤ b2 ∧ b2 ≤ 191) (q3 ∧ 128 ≤ b3 ∧ b3 ≤ 191) = (65533, 1)) ∨
    (U8 b0 b1 b2 b3 q1 q2 q3 ≠ 0 ∧ (D8 b0 b1 b2 b3 (q1 ∧ 128 ≤ b1 ∧ b1 ≤ 191) (q2 ∧ 128 ≤ b2 ∧ b2 ≤ 191) (q3 ∧ 128 ≤ b3 ∧ b3 ≤ 191)).2 = U8 b0 b1 b2 b3 q1 q2 q3 ∧ ((D8 b0 b1 b2 b3 (q1 ∧ 128 ≤ b1 ∧ b1 ≤ 191) (q2 ∧ 128 ≤ b2 ∧ b2 ≤ 191) (q3 ∧ 128 ≤ b3 ∧ b3 ≤ 191)).1 = 65533 → (D8 b0 b1 b2 b3 (q1 ∧ 128 ≤ b1 ∧ b1 ≤ 191) (q2 ∧ 128 ≤ b2 ∧ b2 ≤ 191) (q3 ∧ 128 ≤ b3 ∧ b3 ≤ 191)).2 ≠ 1)) := by
  unfold U8 D8; by_cases c0 : b0 < 128
  · rw [if_pos c0, if_pos c0]; right; refine ⟨by omega, rfl, fun h => ?_⟩; simp at h; omega
  rw [if_neg c0, if_neg c0]; by_cases c1 : 192 ≤ b0 ∧ b0 ≤ 223
  · have e1 : ¬ (224 ≤ b0 ∧ b0 ≤ 239) := by omega
    have e2 : ¬ (240 ≤ b0 ∧ b0 ≤ 244) := by omega
    have f1 : b0 / 32 = 6 := by omega
    have f2 : ¬ (b0 / 16 = 14) := by omega
    have f3 : ¬ (b0 / 8 = 30) := by omega
    simp only [e1, e2, f1, f2, f3, ↓reduceIte, true_and, false_and]; by_cases p1 : q1 ∧ 128 ≤ b1 ∧ b1 ≤ 191
    · simp only [p1, ↓reduceIte, true_and]; by_cases g : 194 ≤ b0
      · have g1 : 194 ≤ b0 ∧ b0 ≤ 223 := by omega
        have g2 : b0 % 32 * 64 + b1 % 64 ≥ 128 := by omega
        rw [if_pos g1, if_pos g2]; right; exact ⟨by omega, rfl, fun _ => by simp⟩
      · have g1 : ¬ (194 ≤ b0 ∧ b0 ≤ 223) := by omega
        have g2 : ¬ (b0 % 32 * 64 + b1 % 64 ≥ 128) := by omega
        rw [if_neg g1, if_neg g2]; left; exact ⟨by first | rfl | trivial, by first | rfl | trivial⟩
    · simp only [p1, ↓reduceIte]; left; exact ⟨by split <;> rfl, by first | rfl | trivial⟩
  have c1' : ¬ (194 ≤ b0 ∧ b0 ≤ 223) := by omega
  have f1 : ¬ (b0 / 32 = 6) := by omega
  simp only [c1', f1, ↓reduceIte, false_and]; by_cases c2 : 224 ≤ b0 ∧ b0 ≤ 239
  · have f2 : b0 / 16 = 14 := by omega
    simp only [c2, f2, ↓reduceIte, true_and, and_self]; by_cases p1 : q1
    · by_cases p2 : q2 ∧ 128 ≤ b2 ∧ b2 ≤ 191
      · simp only [p1, p2, true_and, and_true, and_self]; by_cases g : ((if b0 = 224 then 160 else 128) ≤ b1 ∧ b1 ≤ (if b0 = 237 then 159 else 191))
        · have g' := g; split at g' <;> split at g'
          all_goals
            have g1 : 128 ≤ b1 ∧ b1 ≤ 191 := by omega
            have g2 : b0 % 16 * 4096 + b1 % 64 * 64 + b2 % 64 ≥ 2048 ∧ ¬ (55296 ≤ b0 % 16 * 4096 + b1 % 64 * 64 + b2 % 64 ∧ b0 % 16 * 4096 + b1 % 64 * 64 + b2 % 64 ≤ 57343) := by omega
            rw [if_pos g, if_pos g1, if_pos g2]; right; exact ⟨by omega, rfl, fun _ => by simp⟩
        · rw [if_neg g]; left; refine ⟨rfl, ?_⟩; split
          · rename_i g1; rw [if_neg]; intro g2; apply g; split <;> split <;> omega
          · split
            · rename_i h8; omega
            · rfl
      · have f3 : ¬ (b0 / 8 = 30) := by omega
        simp only [p2, f3, and_false, false_and, ↓reduceIte]; left; exact ⟨by first | rfl | trivial, by first | rfl | trivial⟩
    · have f3 : ¬ (b0 / 8 = 30) := by omega
      simp only [p1, f3, false_and, ↓reduceIte]; left; exact ⟨by first | rfl | trivial, by first | rfl | trivial⟩
  have f2 : ¬ (b0 / 16 = 14) := by omega
  simp only [c2, f2, ↓reduceIte, false_and]; by_cases c3 : 240 ≤ b0 ∧ b0 ≤ 247
  · have f3 : b0 / 8 = 30 := by omega
    simp only [f3, true_and]; by_cases p1 : q1
    · by_cases p2 : q2 ∧ 128 ≤ b2 ∧ b2 ≤ 191
      · by_cases p3 : q3 ∧ 128 ≤ b3 ∧ b3 ≤ 191
        · simp only [p1, p2, p3, true_and, and_true, and_self]; by_cases g : 240 ≤ b0 ∧ b0 ≤ 244 ∧ ((if b0 = 240 then 144 else 128) ≤ b1 ∧ b1 ≤ (if b0 = 244 then 143 else 191))
          · obtain ⟨ga, gb, g⟩ := g; have g' := g; rw [if_pos ⟨ga, gb⟩, if_pos g]; split at g' <;> split at g'
            all_goals
              have g1 : 128 ≤ b1 ∧ b1 ≤ 191 := by omega
              have g2 : b0 % 8 * 262144 + b1 % 64 * 4096 + b2 % 64 * 64 + b3 % 64 ≥ 65536 ∧ b0 % 8 * 262144 + b1 % 64 * 4096 + b2 % 64 * 64 + b3 % 64 ≤ 1114111 := by omega
              rw [if_pos g1, if_pos g2]; right; exact ⟨by omega, rfl, fun _ => by simp⟩
          · left; constructor
            · split
              · rw [if_neg]; intro h; exact g ⟨by omega, by omega, h⟩
              · rfl
            · split
              · rename_i g1; rw [if_neg]; intro g2; apply g; refine ⟨by omega, by omega, ?_⟩; split <;> split <;> omega
              · rfl
        · simp only [p3, and_false, ↓reduceIte]; left; exact ⟨by split <;> rfl, by first | rfl | trivial⟩
      · simp only [p2, and_false, false_and, ↓reduceIte]; left; exact ⟨by split <;> rfl, by first | rfl | trivial⟩
    · simp only [p1, false_and, ↓reduceIte]; left; exact ⟨by split <;> rfl, by first | rfl | trivial⟩
  · have f3 : ¬ (b0 / 8 = 30) := by omega
    have c3' : ¬ (240 ≤ b0 ∧ b0 ≤ 244) := by omega
    simp only [f3, c3', ↓reduceIte, false_and]; left; exact ⟨by first | rfl | trivial, by first | rfl | trivial⟩
theorem ite_cong {α : Type} {c d : Prop} [Decidable c] [Decidable d] {a a' b b' : α} (h : c ↔ d) (ha : a = a') (hb : b = b') : (if c then a else b) = (if d then a' else b') := by
  by_cases hd : d
  · rw [if_pos hd, if_pos (h.2 hd), ha]
  · rw [if_neg hd, if_neg (fun hc => hd (h.1 hc)), hb]
theorem decode_D8 (s : ByteArray) (pos : Nat) (A : Nat → Nat) (hA : ∀ k, A k = (s.get! (pos + k)).toNat) :
    Utf8.decode s pos = D8 (A 0) (A 1) (A 2) (A 3) (pos + 1 < s.size ∧ 128 ≤ A 1 ∧ A 1 ≤ 191) (pos + 2 < s.size ∧ 128 ≤ A 2 ∧ A 2 ≤ 191) (pos + 3 < s.size ∧ 128 ≤ A 3 ∧ A 3 ≤ 191) := by
  have hlt : ∀ k, A k < 256 := fun k => by rw [hA]; exact (s.get! (pos + k)).toNat_lt
  have l0 := hlt 0; have l1 := hlt 1; have l2 := hlt 2; have l3 := hlt 3; unfold Utf8.decode D8 Utf8.runeError; simp only [← hA]; refine ite_cong Iff.rfl rfl (ite_cong ?_ rfl (ite_cong ?_ (ite_cong ?_ rfl rfl) (ite_cong ?_ (ite_cong ?_ rfl rfl) rfl)))
  · simp only [Bool.and_eq_true, beq_iff_eq, decide_eq_true_eq]; omega
  · simp only [Bool.and_eq_true, beq_iff_eq, decide_eq_true_eq]; omega
  · unfold Utf8.valid; simp only [Bool.and_eq_true, Bool.or_eq_true, beq_iff_eq, decide_eq_true_eq]; omega
  · simp only [Bool.and_eq_true, beq_iff_eq, decide_eq_true_eq]; omega
  · unfold Utf8.valid; simp only [Bool.and_eq_true, Bool.or_eq_true, beq_iff_eq, decide_eq_true_eq]; omega
theorem u8n_U8 (s : ByteArray) (pos : Nat) (h : pos < s.size) (A : Nat → Nat) (hA : ∀ k, A k = (s.get! (pos + k)).toNat) :
    u8n (s.data.toList.drop pos) = U8 (A 0) (A 1) (A 2) (A 3) (pos + 1 < s.size) (pos + 2 < s.size) (pos + 3 < s.size) := by
  rw [u8n_at s pos h A hA]; unfold U8 ctA; simp only [Bool.and_eq_true, decide_eq_true_eq]
theorem decode_u8n (s : ByteArray) (pos : Nat) (h : pos < s.size) :
    (u8n (s.data.toList.drop pos) = 0 ∧ Utf8.decode s pos = (65533, 1)) ∨
    (u8n (s.data.toList.drop pos) ≠ 0 ∧ (Utf8.decode s pos).2 = u8n (s.data.toList.drop pos) ∧ ((Utf8.decode s pos).1 = 65533 → (Utf8.decode s pos).2 ≠ 1)) := by
  have hA : ∀ k, (fun k => (s.get! (pos + k)).toNat) k = (s.get! (pos + k)).toNat := fun _ => rfl
  rw [u8n_U8 s pos h _ hA, decode_D8 s pos _ hA]; exact D8_U8 _ _ _ _ _ _ _ (s.get! (pos + 0)).toNat_lt
end Go.Proofs.YtlonokcaddpniaaGreatDoor
namespace Go.Proofs.YtlonokcaddpniaaGreatDoor
open Go.RowKit Go.Shelf
def u8ren : Go.Shelf.Ren := ⟨fun | 197 => 163 | 260 => 164 | n => n, fun | 9 => 9 | 21 => 21 | 3 => 3 | 4 => 4 | 5 => 5 | 105 => 205 | 119 => 207 | 0 => 0 | 46 => 140 | 139 => 210 | 138 => 209 | n => n, fun | 3 => 0 | 4 => 1 | n => n⟩
theorem u8lays : Go.Proofs.Lays.n197 Tryz.prog u8ren := {
  mixed := by kernel_rfl
  f197 := Tryz.func163.trans (congrArg some (by kernel_rfl))
  f260 := Tryz.func164.trans (congrArg some (by kernel_rfl))
  t0 := Tryz.underlying0
  a0 := Tryz.isAgg0
  z0 := Tryz.sizeOf0
  v0 := Tryz.zeroValue0
  t3 := Tryz.underlying3
  a3 := Tryz.isAgg3
  z3 := Tryz.sizeOf3
  v3 := Tryz.zeroValue3
  t4 := Tryz.underlying4
  a4 := Tryz.isAgg4
  z4 := Tryz.sizeOf4
  v4 := Tryz.zeroValue4
  t5 := Tryz.underlying5
  a5 := Tryz.isAgg5
  z5 := Tryz.sizeOf5
  v5 := Tryz.zeroValue5
  t9 := Tryz.underlying9
  a9 := Tryz.isAgg9
  z9 := Tryz.sizeOf9
  v9 := Tryz.zeroValue9
  t21 := Tryz.underlying21
  a21 := Tryz.isAgg21
  z21 := Tryz.sizeOf21
  v21 := Tryz.zeroValue21
  t46 := Tryz.underlying140
  a46 := Tryz.isAgg140
  z46 := Tryz.sizeOf140
  v46 := Tryz.zeroValue140
  t105 := Tryz.underlying205
  a105 := Tryz.isAgg205
  z105 := Tryz.sizeOf205
  v105 := Tryz.zeroValue205
  t119 := Tryz.underlying207
  a119 := Tryz.isAgg207
  z119 := Tryz.sizeOf207
  t138 := Tryz.underlying209
  a138 := Tryz.isAgg209
  z138 := Tryz.sizeOf209
  v138 := Tryz.zeroValue209
  t139 := Tryz.underlying210
  a139 := Tryz.isAgg210
  z139 := Tryz.sizeOf210
  v139 := Tryz.zeroValue210
  g3 := by kernel_rfl
  g4 := by kernel_rfl }
/-- Package unicode/utf8's tables. -/
def Tb (w : World) : Prop := Lib.Utf8Tabs 0 1 w
theorem Tb.pure {w w' : World} (h : Tb w) (hB : Below w.heap.size w w') : Tb w' := by
  refine ⟨fun c hc => ?_, fun i hi => ?_⟩
  · have := h.1 c hc; rw [hB.cell (World.block_lt_of_cell? w _ this)]; exact this
  · have := h.2 i hi; exact ⟨by rw [hB.cell (World.block_lt_of_cell? w _ this.1)]; exact this.1, by rw [hB.cell (World.block_lt_of_cell? w _ this.2)]; exact this.2⟩
theorem decode_any (s : ByteArray) (w : World) (hT : Tb w) :
    Calls Tryz.prog 163 #[.string s] w fun e w' => e = .returned (.tuple #[.int .i32 (Lib.decodeGo s).1, .int .i64 (Lib.decodeGo s).2]) ∧ Below w.heap.size w w' := Any.utf8_DecodeRuneInString u8lays s w hT
theorem decode_tail (s : ByteArray) (pos : Nat) (h : pos < s.size) : Lib.decodeGo (s.extract pos s.size) = Utf8.decode s pos := by
  unfold Lib.decodeGo; have hs : (s.extract pos s.size).size ≠ 0 := by simp; omega
  rw [if_neg hs, Lib.tail_decode, Nat.add_zero]
theorem u8_drop_nil (s : ByteArray) (pos : Nat) (h : ¬ pos < s.size) : u8 (s.data.toList.drop pos) = true := by
  rw [List.drop_eq_nil_of_le (by rw [ba_len]; omega)]; rfl
theorem u8_drop_no (s : ByteArray) (pos : Nat) (h : pos < s.size) (hn : u8n (s.data.toList.drop pos) = 0) : u8 (s.data.toList.drop pos) = false := by
  have hl : pos < s.data.toList.length := by rw [ba_len]; exact h
  rw [List.drop_eq_getElem_cons hl] at hn ⊢; exact u8_no hn
theorem u8_drop_yes (s : ByteArray) (pos : Nat) (h : pos < s.size) (hn : u8n (s.data.toList.drop pos) ≠ 0) : u8 (s.data.toList.drop (pos + u8n (s.data.toList.drop pos))) = u8 (s.data.toList.drop pos) := by
  have hl : pos < s.data.toList.length := by rw [ba_len]; exact h
  rw [← List.drop_drop]; rw [List.drop_eq_getElem_cons hl] at hn ⊢; exact (u8_yes hn).symm
theorem World.iterPos_of {w : World} {k : Nat} {s : ByteArray} {p : Nat} (h : w.heap[k]? = some (.stringIter s p)) : w.iterPos k = p := by simp [World.iterPos, h]
set_option maxRecDepth 100000 in
set_option maxHeartbeats 1600000 in
theorem plain_any (s : ByteArray) (w : World) (hs : (s.size : Int) ≤ 9223372036854775807) (hT : Tb w) :
    Calls Tryz.prog 159 #[.string s] w fun e w' => e = .returned (.bool (u8s s)) ∧ Below w.heap.size w w' := by
  obtain ⟨tot, htot⟩ : ∃ tot, u8s s = tot := ⟨_, rfl⟩
  have htot' : Hid (u8 (s.data.toList.drop 0) = tot) := Lib.hid (by rw [List.drop_zero]; exact htot); rw [htot]; clear htot; have hB0 := (Below.refl w.heap.size w).alloc (Nat.le_refl _) (.stringIter s 0); have hi0 : (w.alloc (.stringIter s 0)).heap[w.heap.size]? = some (.stringIter s 0) := World.iter_heap w s 0; go_enter Tryz.func159, Tryz.ntmps159; go_wp2; go_loopw [2] (fun s2 wr => s2 = .bool false ∧ ∃ pos : Nat, Hid (u8 (s.data.toList.drop pos) = tot) ∧ Hid (wr.heap[w.heap.size]? = some (.stringIter s pos)) ∧ Below w.heap.size w wr) (fun _ wr => s.size - wr.iterPos w.heap.size)
  case atStart => exact ⟨rfl, 0, htot', Lib.hid hi0, hB0⟩
  case round =>
    clear hi0 hB0; obtain ⟨rfl, pos, hu, hit, hB⟩ := hrel; by_cases hlt : pos < s.size
    · have hcase := decode_u8n s pos hlt; have hdc0 := decode_any (s.extract pos s.size) (wr.iterAt w.heap.size s (pos + (Utf8.decode s pos).2)) (hT.pure (Lib.below_iterAt hB (Nat.le_refl _) s _)); rw [decode_tail s pos hlt] at hdc0; have hnx0 := fun ty => Lib.run_next_any_at (P := Tryz.prog) wr w.heap.size s pos ty hit.out hlt
      obtain ⟨d, hd⟩ : ∃ d, Utf8.decode s pos = d := ⟨_, rfl⟩
      rw [hd] at hcase hdc0; simp only [hd] at hnx0; obtain ⟨c, n⟩ := d; dsimp only at hcase hdc0 hnx0; have hnx := hnx0; have hdc := Lib.hid hdc0; have hBi := Lib.below_iterAt hB (Nat.le_refl _) s (pos + n); have hii := Lib.hid (Lib.iterAt_heap wr w.heap.size s pos (pos + n) hit.out); have hip := Lib.hid (World.iterPos_of hit.out); clear hdc0 hnx0 hd hT; rcases hcase with ⟨h0, h1⟩ | ⟨h0, h1, h2⟩
      · simp only [Prod.mk.injEq] at h1; obtain ⟨rfl, rfl⟩ := h1; have hres := Lib.hid (show tot = false by rw [← hu.out]; exact u8_drop_no s pos hlt h0); clear h0; go_wp2_with (go_at_call 163; (with_reducible refine hdc.out.mono ?_); rintro e w1 ⟨rfl, hB1⟩); go_ret; exact ⟨by rw [hres.out]; rfl, hBi.trans (hB1.mono hBi.size)⟩
      · have hyes := u8_drop_yes s pos hlt h0; rw [← h1] at hyes; have hpos : 1 ≤ n := by omega
        have hnext := Lib.hid (hyes.trans hu.out); clear hyes h0 h1; by_cases hc : c = 65533
        · subst hc; have hn1 : ((n : Int) == 1) = false := beq_eq_false_iff_ne.2 (by have := h2 rfl; omega); clear h2; go_wp2_with (go_at_call 163; (with_reducible refine hdc.out.mono ?_); rintro e w1 ⟨rfl, hB1⟩); have hi1 : w1.heap[w.heap.size]? = some (.stringIter s (pos + n)) := (hB1.block w.heap.size (Array.getElem?_eq_some_iff.1 hii.out).1).trans hii.out; have hip1 := World.iterPos_of hi1; go_roundw
          case rel => exact ⟨rfl, pos + n, hnext, Lib.hid hi1, hBi.trans (hB1.mono hBi.size)⟩
          case measure => rw [hip1, hip.out]; omega
        · have hcb : ((c : Int) == 65533) = false := beq_eq_false_iff_ne.2 (by omega); clear h2 hc; go_wp2; have hip1 := World.iterPos_of hii.out; go_roundw
          case rel => exact ⟨rfl, pos + n, hnext, hii, hBi⟩
          case measure => rw [hip1, hip.out]; omega
    · have hnx := fun ty => Lib.run_next_end_at (P := Tryz.prog) wr w.heap.size s pos ty hit.out hlt
      have hres := Lib.hid (show tot = true by rw [← hu.out]; exact u8_drop_nil s pos hlt); go_wp2; go_ret; exact ⟨by rw [hres.out]; rfl, hB⟩
end Go.Proofs.YtlonokcaddpniaaGreatDoor
namespace Go.Proofs.YtlonokcaddpniaaGreatDoor
open Go
def cls (b0 : Nat) : Nat × Nat × Nat :=
  if b0 < 128 then (1, 128, 191) else if 194 ≤ b0 ∧ b0 ≤ 223 then (2, 128, 191)
  else if 224 ≤ b0 ∧ b0 ≤ 239 then (3, if b0 = 224 then 160 else 128, if b0 = 237 then 159 else 191)
  else if 240 ≤ b0 ∧ b0 ≤ 244 then (4, if b0 = 240 then 144 else 128, if b0 = 244 then 143 else 191) else (0, 128, 191)
def okB (A : Nat → Nat) (lo hi k : Nat) : Prop := (if k = 1 then lo else 128) ≤ A k ∧ A k ≤ (if k = 1 then hi else 191)
theorem all1 (P : Nat → Prop) : (∀ k, 1 ≤ k → k < 1 → P k) ↔ True := ⟨fun _ => trivial, fun _ k h1 h2 => by omega⟩
theorem all2 (P : Nat → Prop) : (∀ k, 1 ≤ k → k < 2 → P k) ↔ P 1 := ⟨fun h => h 1 (by omega) (by omega), fun h k h1 h2 => by
  obtain rfl : k = 1 := by omega
  exact h⟩
theorem all3 (P : Nat → Prop) : (∀ k, 1 ≤ k → k < 3 → P k) ↔ P 1 ∧ P 2 := ⟨fun h => ⟨h 1 (by omega) (by omega), h 2 (by omega) (by omega)⟩, fun h k h1 h2 => by
  rcases (show k = 1 ∨ k = 2 by omega) with rfl | rfl
  · exact h.1
  · exact h.2⟩
theorem all4 (P : Nat → Prop) : (∀ k, 1 ≤ k → k < 4 → P k) ↔ P 1 ∧ P 2 ∧ P 3 := ⟨fun h => ⟨h 1 (by omega) (by omega), h 2 (by omega) (by omega), h 3 (by omega) (by omega)⟩, fun h k h1 h2 => by
  rcases (show k = 1 ∨ k = 2 ∨ k = 3 by omega) with rfl | rfl | rfl
  · exact h.1
  · exact h.2.1
  · exact h.2.2⟩
theorem u8n_cls (s : ByteArray) (pos : Nat) (h : pos < s.size) (A : Nat → Nat) (hA : ∀ k, A k = (s.get! (pos + k)).toNat) {n lo hi : Nat} (hc : cls (A 0) = (n, lo, hi)) :
    (u8n (s.data.toList.drop pos) = 0 ∧ (n = 0 ∨ ¬ pos + n ≤ s.size ∨ ¬ ∀ k, 1 ≤ k → k < n → okB A lo hi k)) ∨
    (u8n (s.data.toList.drop pos) = n ∧ n ≠ 0 ∧ pos + n ≤ s.size ∧ ∀ k, 1 ≤ k → k < n → okB A lo hi k) := by
  rw [u8n_U8 s pos h A hA]; unfold cls at hc; unfold U8; split at hc
  · rename_i c; simp only [Prod.mk.injEq] at hc; obtain ⟨rfl, rfl, rfl⟩ := hc; rw [if_pos c]; right; exact ⟨rfl, by omega, by omega, (all1 _).2 trivial⟩
  · rename_i c; rw [if_neg c]; split at hc
    · rename_i c1; simp only [Prod.mk.injEq] at hc; obtain ⟨rfl, rfl, rfl⟩ := hc; rw [if_pos c1, all2]; unfold okB; split
      · rename_i d; right; exact ⟨rfl, by omega, by omega, by simp; omega⟩
      · rename_i d; left; refine ⟨rfl, ?_⟩; simp; omega
    · rename_i c1; rw [if_neg c1]; split at hc
      · rename_i c2; simp only [Prod.mk.injEq] at hc; obtain ⟨rfl, e1, e2⟩ := hc; rw [if_pos c2, all3, e1, e2]; unfold okB; split
        · rename_i d; right; obtain ⟨⟨d1, d2, d3⟩, d4, d5, d6⟩ := d; exact ⟨rfl, by omega, by omega, ⟨by simpa using ⟨d2, d3⟩, by simpa using ⟨d5, d6⟩⟩⟩
        · rename_i d; left; refine ⟨rfl, ?_⟩; by_cases e : pos + 3 ≤ s.size
          · right; right; intro q; apply d; simp at q; exact ⟨⟨by omega, q.1.1, q.1.2⟩, by omega, q.2.1, q.2.2⟩
          · exact .inr (.inl e)
      · rename_i c2; rw [if_neg c2]; split at hc
        · rename_i c3; simp only [Prod.mk.injEq] at hc; obtain ⟨rfl, e1, e2⟩ := hc; rw [if_pos c3, all4, e1, e2]; unfold okB; split
          · rename_i d; right; obtain ⟨⟨⟨d1, d2, d3⟩, d4, d5, d6⟩, d7, d8, d9⟩ := d; exact ⟨rfl, by omega, by omega, ⟨by simpa using ⟨d2, d3⟩, by simpa using ⟨d5, d6⟩, by simpa using ⟨d8, d9⟩⟩⟩
          · rename_i d; left; refine ⟨rfl, ?_⟩; by_cases e : pos + 4 ≤ s.size
            · right; right; intro q; apply d; simp at q; exact ⟨⟨⟨by omega, q.1.1, q.1.2⟩, by omega, q.2.1.1, q.2.1.2⟩, by omega, q.2.2.1, q.2.2.2⟩
            · exact .inr (.inl e)
        · rename_i c3; simp only [Prod.mk.injEq] at hc; obtain ⟨rfl, rfl, rfl⟩ := hc; rw [if_neg c3]; left; exact ⟨rfl, .inl rfl⟩
theorem cls_cases (b : Nat) {n lo hi : Nat} (hc : cls b = (n, lo, hi)) :
    (b < 128 ∧ n = 1 ∧ lo = 128 ∧ hi = 191) ∨ (194 ≤ b ∧ b ≤ 223 ∧ n = 2 ∧ lo = 128 ∧ hi = 191) ∨ (b = 224 ∧ n = 3 ∧ lo = 160 ∧ hi = 191) ∨ (b = 237 ∧ n = 3 ∧ lo = 128 ∧ hi = 159) ∨
    (225 ≤ b ∧ b ≤ 239 ∧ b ≠ 237 ∧ n = 3 ∧ lo = 128 ∧ hi = 191) ∨ (b = 240 ∧ n = 4 ∧ lo = 144 ∧ hi = 191) ∨ (b = 244 ∧ n = 4 ∧ lo = 128 ∧ hi = 143) ∨ (241 ≤ b ∧ b ≤ 243 ∧ n = 4 ∧ lo = 128 ∧ hi = 191) ∨
    (((128 ≤ b ∧ b ≤ 193) ∨ 245 ≤ b) ∧ n = 0 ∧ lo = 128 ∧ hi = 191) := by
  unfold cls at hc; split at hc
  · simp only [Prod.mk.injEq] at hc; left; omega
  · split at hc
    · simp only [Prod.mk.injEq] at hc; right; left; omega
    · split at hc
      · simp only [Prod.mk.injEq] at hc; obtain ⟨rfl, h1, h2⟩ := hc; right; right; by_cases e1 : b = 224
        · left; rw [if_pos e1] at h1; rw [if_neg (by omega)] at h2; exact ⟨e1, rfl, h1.symm, h2.symm⟩
        · right; rw [if_neg e1] at h1; by_cases e2 : b = 237
          · left; rw [if_pos e2] at h2; exact ⟨e2, rfl, h1.symm, h2.symm⟩
          · right; left; rw [if_neg e2] at h2; exact ⟨by omega, by omega, e2, rfl, h1.symm, h2.symm⟩
      · split at hc
        · simp only [Prod.mk.injEq] at hc; obtain ⟨rfl, h1, h2⟩ := hc; right; right; right; right; right; by_cases e1 : b = 240
          · left; rw [if_pos e1] at h1; rw [if_neg (by omega)] at h2; exact ⟨e1, rfl, h1.symm, h2.symm⟩
          · right; rw [if_neg e1] at h1; by_cases e2 : b = 244
            · left; rw [if_pos e2] at h2; exact ⟨e2, rfl, h1.symm, h2.symm⟩
            · right; left; rw [if_neg e2] at h2; exact ⟨by omega, by omega, rfl, h1.symm, h2.symm⟩
        · simp only [Prod.mk.injEq] at hc; obtain ⟨rfl, rfl, rfl⟩ := hc; right; right; right; right; right; right; right; right; exact ⟨by omega, rfl, rfl, rfl⟩
end Go.Proofs.YtlonokcaddpniaaGreatDoor
namespace Go.Proofs.YtlonokcaddpniaaGreatDoor
open Go.RowKit
theorem wrap64_small (x : Nat) (h : x < 256) : wrap64 (x : Int) = (x : Int) := IntWalk.wrap64_in _ (by omega)
theorem byte_get (s : ByteArray) (k : Nat) (h : k < s.size) : (s[k]'h).toNat = (s.get! k).toNat := by
  have : s.get! k = s.data[k]! := rfl; rw [this, getElem!_pos s.data k h]; rfl
set_option maxRecDepth 100000 in
set_option maxHeartbeats 12800000 in
theorem dutf8_any (s : ByteArray) (w : World) (hs : (s.size : Int) ≤ 4611686018427387904) :
    Calls Tryz.prog 155 #[.string s] w fun e w' => e = .returned (.bool (u8s s)) ∧ w = w' := by
  obtain ⟨tot, htot⟩ : ∃ tot, u8s s = tot := ⟨_, rfl⟩
  have htot' : Hid (u8 (s.data.toList.drop 0) = tot) := Lib.hid (by rw [List.drop_zero]; exact htot); rw [htot]; clear htot; go_enter Tryz.func155, Tryz.ntmps155; go_wp2; go_loop [3] (fun s3 => ∃ pos : Nat, s3 = .int .i64 pos ∧ pos ≤ s.size ∧ Hid (u8 (s.data.toList.drop pos) = tot)) (fun s3 => s.size - (intOf s3).toNat)
  case atStart => exact ⟨0, rfl, by omega, htot'⟩
  case round =>
    obtain ⟨pos, rfl, hle, hu⟩ := hrel; by_cases hlt : pos < s.size
    rotate_left 1
    · have hres := Lib.hid (show tot = true by rw [← hu.out]; exact u8_drop_nil s pos hlt); go_wp2; go_ret; exact ⟨by rw [hres.out]; rfl, rfl⟩
    · have h0 : (0 : Int) ≤ (pos : Int) := by omega
      have h1 : (pos : Int) < (s.size : Int) := by omega
      obtain ⟨A, hA⟩ : ∃ A : Nat → Nat, ∀ k, A k = (s.get! (pos + k)).toNat := ⟨fun k => (s.get! (pos + k)).toNat, fun _ => rfl⟩
      obtain ⟨⟨n, lo, hi⟩, hc⟩ : ∃ x, cls (A 0) = x := ⟨_, rfl⟩
      have hu9 := u8n_cls s pos hlt A hA hc; have hcc0 := cls_cases (A 0) hc; have hb0 : wrap64 ((s[pos]'hlt).toNat : Int) = (A 0 : Int) := by rw [wrap64_small _ (s[pos]'hlt).toNat_lt, byte_get, hA, Nat.add_zero]
      have hb256 : (A 0 : Int) < 256 := by have := (s.get! (pos + 0)).toNat_lt; rw [← hA] at this; omega
      clear hc; obtain ⟨b, hb⟩ : ∃ b : Int, (A 0 : Int) = b := ⟨_, rfl⟩
      have hbz : 0 ≤ b := by omega
      rw [hb] at hb0 hb256
      have hcc1 : (b < 128 ∧ n = 1 ∧ lo = 128 ∧ hi = 191) ∨ (194 ≤ b ∧ b ≤ 223 ∧ n = 2 ∧ lo = 128 ∧ hi = 191) ∨ (b = 224 ∧ n = 3 ∧ lo = 160 ∧ hi = 191) ∨ (b = 237 ∧ n = 3 ∧ lo = 128 ∧ hi = 159) ∨ (225 ≤ b ∧ b ≤ 239 ∧ b ≠ 237 ∧ n = 3 ∧ lo = 128 ∧ hi = 191) ∨ (b = 240 ∧ n = 4 ∧ lo = 144 ∧ hi = 191) ∨ (b = 244 ∧ n = 4 ∧ lo = 128 ∧ hi = 143) ∨ (241 ≤ b ∧ b ≤ 243 ∧ n = 4 ∧ lo = 128 ∧ hi = 191) ∨ (((128 ≤ b ∧ b ≤ 193) ∨ 245 ≤ b) ∧ n = 0 ∧ lo = 128 ∧ hi = 191) := by
        rcases hcc0 with h | h | h | h | h | h | h | h | h
        · refine .inl ?_; omega
        · refine .inr (.inl ?_); omega
        · refine .inr (.inr (.inl ?_)); omega
        · refine .inr (.inr (.inr (.inl ?_))); omega
        · refine .inr (.inr (.inr (.inr (.inl ?_)))); omega
        · refine .inr (.inr (.inr (.inr (.inr (.inl ?_))))); omega
        · refine .inr (.inr (.inr (.inr (.inr (.inr (.inl ?_)))))); omega
        · refine .inr (.inr (.inr (.inr (.inr (.inr (.inr (.inl ?_))))))); omega
        · refine .inr (.inr (.inr (.inr (.inr (.inr (.inr (.inr (?_)))))))); omega
      clear hcc0 hb; rcases hcc1 with hcc | hcc | hcc | hcc | hcc | hcc | hcc | hcc | hcc
      · obtain ⟨c1, rfl, rfl, rfl⟩ := hcc; have hu9h := Lib.hid hu9; clear hu9; have hfit : pos + 1 ≤ s.size := by omega
        have h2 : (pos : Int) + 1 ≤ (s.size : Int) := by omega
        have hAh := Lib.hid hA; clear hA; go_wp2; go_loop [6, 7, 8] (fun s6 s7 s8 => ∃ (k : Nat) (lk hk : Int), 1 ≤ k ∧ k ≤ 1 ∧ s8 = .int .i64 k ∧ s6 = .int .i64 lk ∧ s7 = .int .i64 hk ∧ Hid (lk = (if k = 1 then 128 else 128)) ∧ Hid (hk = (if k = 1 then 191 else 191)) ∧ Hid (∀ j, 1 ≤ j → j < k → okB A 128 191 j)) (fun _ _ s8 => 1 - (intOf s8).toNat)
        case atStart => exact ⟨1, 128, 191, by omega, by omega, rfl, rfl, rfl, Lib.hid rfl, Lib.hid rfl, Lib.hid (fun j h1 h2 => by omega)⟩
        case round =>
          obtain ⟨k, lk, hk, hk1, hkn, rfl, rfl, rfl, hlk, hhk, hok⟩ := hrel; by_cases hkl : k < 1
          · omega
          · obtain rfl : k = 1 := by omega
            have hnext := Lib.hid (show _root_.Go.Proofs.YtlonokcaddpniaaGreatDoor.u8 (s.data.toList.drop (pos + 1)) = tot by
              rcases hu9h.out with ⟨_, h | h | h⟩ | ⟨h, _⟩
              · exact absurd h (by omega)
              · exact absurd hfit h
              · exact absurd hok.out h
              · have := u8_drop_yes s pos hlt (by rw [h]; omega)
                rw [h] at this; exact this.trans hu.out)
            go_wp2; go_round
            case rel => exact ⟨pos + 1, by go_num, by omega, hnext⟩
            case measure => simp [intOf]; omega
      · obtain ⟨c1, c2, rfl, rfl, rfl⟩ := hcc; have hu9h := Lib.hid hu9; clear hu9; by_cases hfit : pos + 2 ≤ s.size
        rotate_left 1
        · have hres := Lib.hid (show tot = false by
            rcases hu9h.out with ⟨h, _⟩ | ⟨_, _, h, _⟩
            · rw [← hu.out]; exact u8_drop_no s pos hlt h
            · exact absurd h hfit)
          clear hA; have h2 : (s.size : Int) < (pos : Int) + 2 := by omega
          go_wp2; go_ret; exact ⟨by rw [hres.out]; rfl, rfl⟩
        have h2 : (pos : Int) + 2 ≤ (s.size : Int) := by omega
        have hAh := Lib.hid hA; clear hA; go_wp2; go_loop [6, 7, 8] (fun s6 s7 s8 => ∃ (k : Nat) (lk hk : Int), 1 ≤ k ∧ k ≤ 2 ∧ s8 = .int .i64 k ∧ s6 = .int .i64 lk ∧ s7 = .int .i64 hk ∧ Hid (lk = (if k = 1 then 128 else 128)) ∧ Hid (hk = (if k = 1 then 191 else 191)) ∧ Hid (∀ j, 1 ≤ j → j < k → okB A 128 191 j)) (fun _ _ s8 => 2 - (intOf s8).toNat)
        case atStart => exact ⟨1, 128, 191, by omega, by omega, rfl, rfl, rfl, Lib.hid rfl, Lib.hid rfl, Lib.hid (fun j h1 h2 => by omega)⟩
        case round =>
          obtain ⟨k, lk, hk, hk1, hkn, rfl, rfl, rfl, hlk, hhk, hok⟩ := hrel; by_cases hkl : k < 2
          · have hpk : pos + k < s.size := by omega
            have hbk0 : wrap64 ((s[pos + k]'hpk).toNat : Int) = (A k : Int) := by rw [wrap64_small _ (s[pos + k]'hpk).toNat_lt, byte_get, hAh.out]
            have hokk : okB A 128 191 k ↔ lk ≤ (A k : Int) ∧ (A k : Int) ≤ hk := by
              rw [hlk.out, hhk.out]; unfold okB; split <;> omega
            obtain ⟨bk, hbk⟩ : ∃ bk : Int, (A k : Int) = bk := ⟨_, rfl⟩
            rw [hbk] at hbk0 hokk; have hokk' := Lib.hid hokk; have hk0 : (0 : Int) ≤ (k : Int) := by omega
            have hk2 : (k : Int) < 2 := by omega
            have hk3 : (pos : Int) + (k : Int) < (s.size : Int) := by omega
            clear hokk hbk; by_cases hbad : lk ≤ bk ∧ bk ≤ hk
            · obtain ⟨g1, g2⟩ := hbad; have hgood := Lib.hid (hokk'.out.2 ⟨g1, g2⟩); go_wp2; go_round
              case rel => exact ⟨k + 1, 128, 191, by omega, by omega, by go_num, rfl, rfl, Lib.hid (by rw [if_neg (by omega)]), Lib.hid (by rw [if_neg (by omega)]), Lib.hid (fun j h1 h2 => by
                rcases Nat.lt_or_ge j k with h' | h'
                · exact hok.out j h1 h'
                · obtain rfl : j = k := by omega
                  exact hgood.out)⟩
              case measure => simp [intOf]; omega
            · have hres := Lib.hid (show tot = false by
                rcases hu9h.out with ⟨h, _⟩ | ⟨_, _, _, h⟩
                · rw [← hu.out]; exact u8_drop_no s pos hlt h
                · exact absurd (hokk'.out.1 (h k hk1 hkl)) hbad)
              by_cases g1 : bk < lk
              · clear hbad; go_wp2; go_ret; exact ⟨by rw [hres.out]; rfl, rfl⟩
              · have g2 : hk < bk := by omega
                have g3 : lk ≤ bk := by omega
                clear hbad g1; go_wp2; go_ret; exact ⟨by rw [hres.out]; rfl, rfl⟩
          · obtain rfl : k = 2 := by omega
            have hnext := Lib.hid (show _root_.Go.Proofs.YtlonokcaddpniaaGreatDoor.u8 (s.data.toList.drop (pos + 2)) = tot by
              rcases hu9h.out with ⟨_, h | h | h⟩ | ⟨h, _⟩
              · exact absurd h (by omega)
              · exact absurd hfit h
              · exact absurd hok.out h
              · have := u8_drop_yes s pos hlt (by rw [h]; omega)
                rw [h] at this; exact this.trans hu.out)
            go_wp2; go_round
            case rel => exact ⟨pos + 2, by go_num, by omega, hnext⟩
            case measure => simp [intOf]; omega
      · obtain ⟨rfl, rfl, rfl, rfl⟩ := hcc; have hu9h := Lib.hid hu9; clear hu9; by_cases hfit : pos + 3 ≤ s.size
        rotate_left 1
        · have hres := Lib.hid (show tot = false by
            rcases hu9h.out with ⟨h, _⟩ | ⟨_, _, h, _⟩
            · rw [← hu.out]; exact u8_drop_no s pos hlt h
            · exact absurd h hfit)
          clear hA; have h2 : (s.size : Int) < (pos : Int) + 3 := by omega
          go_wp2; go_ret; exact ⟨by rw [hres.out]; rfl, rfl⟩
        have h2 : (pos : Int) + 3 ≤ (s.size : Int) := by omega
        have hAh := Lib.hid hA; clear hA; go_wp2; go_loop [6, 7, 8] (fun s6 s7 s8 => ∃ (k : Nat) (lk hk : Int), 1 ≤ k ∧ k ≤ 3 ∧ s8 = .int .i64 k ∧ s6 = .int .i64 lk ∧ s7 = .int .i64 hk ∧ Hid (lk = (if k = 1 then 160 else 128)) ∧ Hid (hk = (if k = 1 then 191 else 191)) ∧ Hid (∀ j, 1 ≤ j → j < k → okB A 160 191 j)) (fun _ _ s8 => 3 - (intOf s8).toNat)
        case atStart => exact ⟨1, 160, 191, by omega, by omega, rfl, rfl, rfl, Lib.hid rfl, Lib.hid rfl, Lib.hid (fun j h1 h2 => by omega)⟩
        case round =>
          obtain ⟨k, lk, hk, hk1, hkn, rfl, rfl, rfl, hlk, hhk, hok⟩ := hrel; by_cases hkl : k < 3
          · have hpk : pos + k < s.size := by omega
            have hbk0 : wrap64 ((s[pos + k]'hpk).toNat : Int) = (A k : Int) := by rw [wrap64_small _ (s[pos + k]'hpk).toNat_lt, byte_get, hAh.out]
            have hokk : okB A 160 191 k ↔ lk ≤ (A k : Int) ∧ (A k : Int) ≤ hk := by
              rw [hlk.out, hhk.out]; unfold okB; split <;> omega
            obtain ⟨bk, hbk⟩ : ∃ bk : Int, (A k : Int) = bk := ⟨_, rfl⟩
            rw [hbk] at hbk0 hokk; have hokk' := Lib.hid hokk; have hk0 : (0 : Int) ≤ (k : Int) := by omega
            have hk2 : (k : Int) < 3 := by omega
            have hk3 : (pos : Int) + (k : Int) < (s.size : Int) := by omega
            clear hokk hbk; by_cases hbad : lk ≤ bk ∧ bk ≤ hk
            · obtain ⟨g1, g2⟩ := hbad; have hgood := Lib.hid (hokk'.out.2 ⟨g1, g2⟩); go_wp2; go_round
              case rel => exact ⟨k + 1, 128, 191, by omega, by omega, by go_num, rfl, rfl, Lib.hid (by rw [if_neg (by omega)]), Lib.hid (by rw [if_neg (by omega)]), Lib.hid (fun j h1 h2 => by
                rcases Nat.lt_or_ge j k with h' | h'
                · exact hok.out j h1 h'
                · obtain rfl : j = k := by omega
                  exact hgood.out)⟩
              case measure => simp [intOf]; omega
            · have hres := Lib.hid (show tot = false by
                rcases hu9h.out with ⟨h, _⟩ | ⟨_, _, _, h⟩
                · rw [← hu.out]; exact u8_drop_no s pos hlt h
                · exact absurd (hokk'.out.1 (h k hk1 hkl)) hbad)
              by_cases g1 : bk < lk
              · clear hbad; go_wp2; go_ret; exact ⟨by rw [hres.out]; rfl, rfl⟩
              · have g2 : hk < bk := by omega
                have g3 : lk ≤ bk := by omega
                clear hbad g1; go_wp2; go_ret; exact ⟨by rw [hres.out]; rfl, rfl⟩
          · obtain rfl : k = 3 := by omega
            have hnext := Lib.hid (show _root_.Go.Proofs.YtlonokcaddpniaaGreatDoor.u8 (s.data.toList.drop (pos + 3)) = tot by
              rcases hu9h.out with ⟨_, h | h | h⟩ | ⟨h, _⟩
              · exact absurd h (by omega)
              · exact absurd hfit h
              · exact absurd hok.out h
              · have := u8_drop_yes s pos hlt (by rw [h]; omega)
                rw [h] at this; exact this.trans hu.out)
            go_wp2; go_round
            case rel => exact ⟨pos + 3, by go_num, by omega, hnext⟩
            case measure => simp [intOf]; omega
      · obtain ⟨rfl, rfl, rfl, rfl⟩ := hcc; have hu9h := Lib.hid hu9; clear hu9; by_cases hfit : pos + 3 ≤ s.size
        rotate_left 1
        · have hres := Lib.hid (show tot = false by
            rcases hu9h.out with ⟨h, _⟩ | ⟨_, _, h, _⟩
            · rw [← hu.out]; exact u8_drop_no s pos hlt h
            · exact absurd h hfit)
          clear hA; have h2 : (s.size : Int) < (pos : Int) + 3 := by omega
          go_wp2; go_ret; exact ⟨by rw [hres.out]; rfl, rfl⟩
        have h2 : (pos : Int) + 3 ≤ (s.size : Int) := by omega
        have hAh := Lib.hid hA; clear hA; go_wp2; go_loop [6, 7, 8] (fun s6 s7 s8 => ∃ (k : Nat) (lk hk : Int), 1 ≤ k ∧ k ≤ 3 ∧ s8 = .int .i64 k ∧ s6 = .int .i64 lk ∧ s7 = .int .i64 hk ∧ Hid (lk = (if k = 1 then 128 else 128)) ∧ Hid (hk = (if k = 1 then 159 else 191)) ∧ Hid (∀ j, 1 ≤ j → j < k → okB A 128 159 j)) (fun _ _ s8 => 3 - (intOf s8).toNat)
        case atStart => exact ⟨1, 128, 159, by omega, by omega, rfl, rfl, rfl, Lib.hid rfl, Lib.hid rfl, Lib.hid (fun j h1 h2 => by omega)⟩
        case round =>
          obtain ⟨k, lk, hk, hk1, hkn, rfl, rfl, rfl, hlk, hhk, hok⟩ := hrel; by_cases hkl : k < 3
          · have hpk : pos + k < s.size := by omega
            have hbk0 : wrap64 ((s[pos + k]'hpk).toNat : Int) = (A k : Int) := by rw [wrap64_small _ (s[pos + k]'hpk).toNat_lt, byte_get, hAh.out]
            have hokk : okB A 128 159 k ↔ lk ≤ (A k : Int) ∧ (A k : Int) ≤ hk := by
              rw [hlk.out, hhk.out]; unfold okB; split <;> omega
            obtain ⟨bk, hbk⟩ : ∃ bk : Int, (A k : Int) = bk := ⟨_, rfl⟩
            rw [hbk] at hbk0 hokk; have hokk' := Lib.hid hokk; have hk0 : (0 : Int) ≤ (k : Int) := by omega
            have hk2 : (k : Int) < 3 := by omega
            have hk3 : (pos : Int) + (k : Int) < (s.size : Int) := by omega
            clear hokk hbk; by_cases hbad : lk ≤ bk ∧ bk ≤ hk
            · obtain ⟨g1, g2⟩ := hbad; have hgood := Lib.hid (hokk'.out.2 ⟨g1, g2⟩); go_wp2; go_round
              case rel => exact ⟨k + 1, 128, 191, by omega, by omega, by go_num, rfl, rfl, Lib.hid (by rw [if_neg (by omega)]), Lib.hid (by rw [if_neg (by omega)]), Lib.hid (fun j h1 h2 => by
                rcases Nat.lt_or_ge j k with h' | h'
                · exact hok.out j h1 h'
                · obtain rfl : j = k := by omega
                  exact hgood.out)⟩
              case measure => simp [intOf]; omega
            · have hres := Lib.hid (show tot = false by
                rcases hu9h.out with ⟨h, _⟩ | ⟨_, _, _, h⟩
                · rw [← hu.out]; exact u8_drop_no s pos hlt h
                · exact absurd (hokk'.out.1 (h k hk1 hkl)) hbad)
              by_cases g1 : bk < lk
              · clear hbad; go_wp2; go_ret; exact ⟨by rw [hres.out]; rfl, rfl⟩
              · have g2 : hk < bk := by omega
                have g3 : lk ≤ bk := by omega
                clear hbad g1; go_wp2; go_ret; exact ⟨by rw [hres.out]; rfl, rfl⟩
          · obtain rfl : k = 3 := by omega
            have hnext := Lib.hid (show _root_.Go.Proofs.YtlonokcaddpniaaGreatDoor.u8 (s.data.toList.drop (pos + 3)) = tot by
              rcases hu9h.out with ⟨_, h | h | h⟩ | ⟨h, _⟩
              · exact absurd h (by omega)
              · exact absurd hfit h
              · exact absurd hok.out h
              · have := u8_drop_yes s pos hlt (by rw [h]; omega)
                rw [h] at this; exact this.trans hu.out)
            go_wp2; go_round
            case rel => exact ⟨pos + 3, by go_num, by omega, hnext⟩
            case measure => simp [intOf]; omega
      · obtain ⟨c1, c2, c3, rfl, rfl, rfl⟩ := hcc; have hu9h := Lib.hid hu9; clear hu9; by_cases hfit : pos + 3 ≤ s.size
        rotate_left 1
        · have hres := Lib.hid (show tot = false by
            rcases hu9h.out with ⟨h, _⟩ | ⟨_, _, h, _⟩
            · rw [← hu.out]; exact u8_drop_no s pos hlt h
            · exact absurd h hfit)
          clear hA; have h2 : (s.size : Int) < (pos : Int) + 3 := by omega
          go_wp2; go_ret; exact ⟨by rw [hres.out]; rfl, rfl⟩
        have h2 : (pos : Int) + 3 ≤ (s.size : Int) := by omega
        have hAh := Lib.hid hA; clear hA; go_wp2; go_loop [6, 7, 8] (fun s6 s7 s8 => ∃ (k : Nat) (lk hk : Int), 1 ≤ k ∧ k ≤ 3 ∧ s8 = .int .i64 k ∧ s6 = .int .i64 lk ∧ s7 = .int .i64 hk ∧ Hid (lk = (if k = 1 then 128 else 128)) ∧ Hid (hk = (if k = 1 then 191 else 191)) ∧ Hid (∀ j, 1 ≤ j → j < k → okB A 128 191 j)) (fun _ _ s8 => 3 - (intOf s8).toNat)
        case atStart => exact ⟨1, 128, 191, by omega, by omega, rfl, rfl, rfl, Lib.hid rfl, Lib.hid rfl, Lib.hid (fun j h1 h2 => by omega)⟩
        case round =>
          obtain ⟨k, lk, hk, hk1, hkn, rfl, rfl, rfl, hlk, hhk, hok⟩ := hrel; by_cases hkl : k < 3
          · have hpk : pos + k < s.size := by omega
            have hbk0 : wrap64 ((s[pos + k]'hpk).toNat : Int) = (A k : Int) := by rw [wrap64_small _ (s[pos + k]'hpk).toNat_lt, byte_get, hAh.out]
            have hokk : okB A 128 191 k ↔ lk ≤ (A k : Int) ∧ (A k : Int) ≤ hk := by
              rw [hlk.out, hhk.out]; unfold okB; split <;> omega
            obtain ⟨bk, hbk⟩ : ∃ bk : Int, (A k : Int) = bk := ⟨_, rfl⟩
            rw [hbk] at hbk0 hokk; have hokk' := Lib.hid hokk; have hk0 : (0 : Int) ≤ (k : Int) := by omega
            have hk2 : (k : Int) < 3 := by omega
            have hk3 : (pos : Int) + (k : Int) < (s.size : Int) := by omega
            clear hokk hbk; by_cases hbad : lk ≤ bk ∧ bk ≤ hk
            · obtain ⟨g1, g2⟩ := hbad; have hgood := Lib.hid (hokk'.out.2 ⟨g1, g2⟩); go_wp2; go_round
              case rel => exact ⟨k + 1, 128, 191, by omega, by omega, by go_num, rfl, rfl, Lib.hid (by rw [if_neg (by omega)]), Lib.hid (by rw [if_neg (by omega)]), Lib.hid (fun j h1 h2 => by
                rcases Nat.lt_or_ge j k with h' | h'
                · exact hok.out j h1 h'
                · obtain rfl : j = k := by omega
                  exact hgood.out)⟩
              case measure => simp [intOf]; omega
            · have hres := Lib.hid (show tot = false by
                rcases hu9h.out with ⟨h, _⟩ | ⟨_, _, _, h⟩
                · rw [← hu.out]; exact u8_drop_no s pos hlt h
                · exact absurd (hokk'.out.1 (h k hk1 hkl)) hbad)
              by_cases g1 : bk < lk
              · clear hbad; go_wp2; go_ret; exact ⟨by rw [hres.out]; rfl, rfl⟩
              · have g2 : hk < bk := by omega
                have g3 : lk ≤ bk := by omega
                clear hbad g1; go_wp2; go_ret; exact ⟨by rw [hres.out]; rfl, rfl⟩
          · obtain rfl : k = 3 := by omega
            have hnext := Lib.hid (show _root_.Go.Proofs.YtlonokcaddpniaaGreatDoor.u8 (s.data.toList.drop (pos + 3)) = tot by
              rcases hu9h.out with ⟨_, h | h | h⟩ | ⟨h, _⟩
              · exact absurd h (by omega)
              · exact absurd hfit h
              · exact absurd hok.out h
              · have := u8_drop_yes s pos hlt (by rw [h]; omega)
                rw [h] at this; exact this.trans hu.out)
            go_wp2; go_round
            case rel => exact ⟨pos + 3, by go_num, by omega, hnext⟩
            case measure => simp [intOf]; omega
      · obtain ⟨rfl, rfl, rfl, rfl⟩ := hcc; have hu9h := Lib.hid hu9; clear hu9; by_cases hfit : pos + 4 ≤ s.size
        rotate_left 1
        · have hres := Lib.hid (show tot = false by
            rcases hu9h.out with ⟨h, _⟩ | ⟨_, _, h, _⟩
            · rw [← hu.out]; exact u8_drop_no s pos hlt h
            · exact absurd h hfit)
          clear hA; have h2 : (s.size : Int) < (pos : Int) + 4 := by omega
          go_wp2; go_ret; exact ⟨by rw [hres.out]; rfl, rfl⟩
        have h2 : (pos : Int) + 4 ≤ (s.size : Int) := by omega
        have hAh := Lib.hid hA; clear hA; go_wp2; go_loop [6, 7, 8] (fun s6 s7 s8 => ∃ (k : Nat) (lk hk : Int), 1 ≤ k ∧ k ≤ 4 ∧ s8 = .int .i64 k ∧ s6 = .int .i64 lk ∧ s7 = .int .i64 hk ∧ Hid (lk = (if k = 1 then 144 else 128)) ∧ Hid (hk = (if k = 1 then 191 else 191)) ∧ Hid (∀ j, 1 ≤ j → j < k → okB A 144 191 j)) (fun _ _ s8 => 4 - (intOf s8).toNat)
        case atStart => exact ⟨1, 144, 191, by omega, by omega, rfl, rfl, rfl, Lib.hid rfl, Lib.hid rfl, Lib.hid (fun j h1 h2 => by omega)⟩
        case round =>
          obtain ⟨k, lk, hk, hk1, hkn, rfl, rfl, rfl, hlk, hhk, hok⟩ := hrel; by_cases hkl : k < 4
          · have hpk : pos + k < s.size := by omega
            have hbk0 : wrap64 ((s[pos + k]'hpk).toNat : Int) = (A k : Int) := by rw [wrap64_small _ (s[pos + k]'hpk).toNat_lt, byte_get, hAh.out]
            have hokk : okB A 144 191 k ↔ lk ≤ (A k : Int) ∧ (A k : Int) ≤ hk := by
              rw [hlk.out, hhk.out]; unfold okB; split <;> omega
            obtain ⟨bk, hbk⟩ : ∃ bk : Int, (A k : Int) = bk := ⟨_, rfl⟩
            rw [hbk] at hbk0 hokk; have hokk' := Lib.hid hokk; have hk0 : (0 : Int) ≤ (k : Int) := by omega
            have hk2 : (k : Int) < 4 := by omega
            have hk3 : (pos : Int) + (k : Int) < (s.size : Int) := by omega
            clear hokk hbk; by_cases hbad : lk ≤ bk ∧ bk ≤ hk
            · obtain ⟨g1, g2⟩ := hbad; have hgood := Lib.hid (hokk'.out.2 ⟨g1, g2⟩); go_wp2; go_round
              case rel => exact ⟨k + 1, 128, 191, by omega, by omega, by go_num, rfl, rfl, Lib.hid (by rw [if_neg (by omega)]), Lib.hid (by rw [if_neg (by omega)]), Lib.hid (fun j h1 h2 => by
                rcases Nat.lt_or_ge j k with h' | h'
                · exact hok.out j h1 h'
                · obtain rfl : j = k := by omega
                  exact hgood.out)⟩
              case measure => simp [intOf]; omega
            · have hres := Lib.hid (show tot = false by
                rcases hu9h.out with ⟨h, _⟩ | ⟨_, _, _, h⟩
                · rw [← hu.out]; exact u8_drop_no s pos hlt h
                · exact absurd (hokk'.out.1 (h k hk1 hkl)) hbad)
              by_cases g1 : bk < lk
              · clear hbad; go_wp2; go_ret; exact ⟨by rw [hres.out]; rfl, rfl⟩
              · have g2 : hk < bk := by omega
                have g3 : lk ≤ bk := by omega
                clear hbad g1; go_wp2; go_ret; exact ⟨by rw [hres.out]; rfl, rfl⟩
          · obtain rfl : k = 4 := by omega
            have hnext := Lib.hid (show _root_.Go.Proofs.YtlonokcaddpniaaGreatDoor.u8 (s.data.toList.drop (pos + 4)) = tot by
              rcases hu9h.out with ⟨_, h | h | h⟩ | ⟨h, _⟩
              · exact absurd h (by omega)
              · exact absurd hfit h
              · exact absurd hok.out h
              · have := u8_drop_yes s pos hlt (by rw [h]; omega)
                rw [h] at this; exact this.trans hu.out)
            go_wp2; go_round
            case rel => exact ⟨pos + 4, by go_num, by omega, hnext⟩
            case measure => simp [intOf]; omega
      · obtain ⟨rfl, rfl, rfl, rfl⟩ := hcc; have hu9h := Lib.hid hu9; clear hu9; by_cases hfit : pos + 4 ≤ s.size
        rotate_left 1
        · have hres := Lib.hid (show tot = false by
            rcases hu9h.out with ⟨h, _⟩ | ⟨_, _, h, _⟩
            · rw [← hu.out]; exact u8_drop_no s pos hlt h
            · exact absurd h hfit)
          clear hA; have h2 : (s.size : Int) < (pos : Int) + 4 := by omega
          go_wp2; go_ret; exact ⟨by rw [hres.out]; rfl, rfl⟩
        have h2 : (pos : Int) + 4 ≤ (s.size : Int) := by omega
        have hAh := Lib.hid hA; clear hA; go_wp2; go_loop [6, 7, 8] (fun s6 s7 s8 => ∃ (k : Nat) (lk hk : Int), 1 ≤ k ∧ k ≤ 4 ∧ s8 = .int .i64 k ∧ s6 = .int .i64 lk ∧ s7 = .int .i64 hk ∧ Hid (lk = (if k = 1 then 128 else 128)) ∧ Hid (hk = (if k = 1 then 143 else 191)) ∧ Hid (∀ j, 1 ≤ j → j < k → okB A 128 143 j)) (fun _ _ s8 => 4 - (intOf s8).toNat)
        case atStart => exact ⟨1, 128, 143, by omega, by omega, rfl, rfl, rfl, Lib.hid rfl, Lib.hid rfl, Lib.hid (fun j h1 h2 => by omega)⟩
        case round =>
          obtain ⟨k, lk, hk, hk1, hkn, rfl, rfl, rfl, hlk, hhk, hok⟩ := hrel; by_cases hkl : k < 4
          · have hpk : pos + k < s.size := by omega
            have hbk0 : wrap64 ((s[pos + k]'hpk).toNat : Int) = (A k : Int) := by rw [wrap64_small _ (s[pos + k]'hpk).toNat_lt, byte_get, hAh.out]
            have hokk : okB A 128 143 k ↔ lk ≤ (A k : Int) ∧ (A k : Int) ≤ hk := by
              rw [hlk.out, hhk.out]; unfold okB; split <;> omega
            obtain ⟨bk, hbk⟩ : ∃ bk : Int, (A k : Int) = bk := ⟨_, rfl⟩
            rw [hbk] at hbk0 hokk; have hokk' := Lib.hid hokk; have hk0 : (0 : Int) ≤ (k : Int) := by omega
            have hk2 : (k : Int) < 4 := by omega
            have hk3 : (pos : Int) + (k : Int) < (s.size : Int) := by omega
            clear hokk hbk; by_cases hbad : lk ≤ bk ∧ bk ≤ hk
            · obtain ⟨g1, g2⟩ := hbad; have hgood := Lib.hid (hokk'.out.2 ⟨g1, g2⟩); go_wp2; go_round
              case rel => exact ⟨k + 1, 128, 191, by omega, by omega, by go_num, rfl, rfl, Lib.hid (by rw [if_neg (by omega)]), Lib.hid (by rw [if_neg (by omega)]), Lib.hid (fun j h1 h2 => by
                rcases Nat.lt_or_ge j k with h' | h'
                · exact hok.out j h1 h'
                · obtain rfl : j = k := by omega
                  exact hgood.out)⟩
              case measure => simp [intOf]; omega
            · have hres := Lib.hid (show tot = false by
                rcases hu9h.out with ⟨h, _⟩ | ⟨_, _, _, h⟩
                · rw [← hu.out]; exact u8_drop_no s pos hlt h
                · exact absurd (hokk'.out.1 (h k hk1 hkl)) hbad)
              by_cases g1 : bk < lk
              · clear hbad; go_wp2; go_ret; exact ⟨by rw [hres.out]; rfl, rfl⟩
              · have g2 : hk < bk := by omega
                have g3 : lk ≤ bk := by omega
                clear hbad g1; go_wp2; go_ret; exact ⟨by rw [hres.out]; rfl, rfl⟩
          · obtain rfl : k = 4 := by omega
            have hnext := Lib.hid (show _root_.Go.Proofs.YtlonokcaddpniaaGreatDoor.u8 (s.data.toList.drop (pos + 4)) = tot by
              rcases hu9h.out with ⟨_, h | h | h⟩ | ⟨h, _⟩
              · exact absurd h (by omega)
              · exact absurd hfit h
              · exact absurd hok.out h
              · have := u8_drop_yes s pos hlt (by rw [h]; omega)
                rw [h] at this; exact this.trans hu.out)
            go_wp2; go_round
            case rel => exact ⟨pos + 4, by go_num, by omega, hnext⟩
            case measure => simp [intOf]; omega
      · obtain ⟨c1, c2, rfl, rfl, rfl⟩ := hcc; have hu9h := Lib.hid hu9; clear hu9; by_cases hfit : pos + 4 ≤ s.size
        rotate_left 1
        · have hres := Lib.hid (show tot = false by
            rcases hu9h.out with ⟨h, _⟩ | ⟨_, _, h, _⟩
            · rw [← hu.out]; exact u8_drop_no s pos hlt h
            · exact absurd h hfit)
          clear hA; have h2 : (s.size : Int) < (pos : Int) + 4 := by omega
          go_wp2; go_ret; exact ⟨by rw [hres.out]; rfl, rfl⟩
        have h2 : (pos : Int) + 4 ≤ (s.size : Int) := by omega
        have hAh := Lib.hid hA; clear hA; go_wp2; go_loop [6, 7, 8] (fun s6 s7 s8 => ∃ (k : Nat) (lk hk : Int), 1 ≤ k ∧ k ≤ 4 ∧ s8 = .int .i64 k ∧ s6 = .int .i64 lk ∧ s7 = .int .i64 hk ∧ Hid (lk = (if k = 1 then 128 else 128)) ∧ Hid (hk = (if k = 1 then 191 else 191)) ∧ Hid (∀ j, 1 ≤ j → j < k → okB A 128 191 j)) (fun _ _ s8 => 4 - (intOf s8).toNat)
        case atStart => exact ⟨1, 128, 191, by omega, by omega, rfl, rfl, rfl, Lib.hid rfl, Lib.hid rfl, Lib.hid (fun j h1 h2 => by omega)⟩
        case round =>
          obtain ⟨k, lk, hk, hk1, hkn, rfl, rfl, rfl, hlk, hhk, hok⟩ := hrel; by_cases hkl : k < 4
          · have hpk : pos + k < s.size := by omega
            have hbk0 : wrap64 ((s[pos + k]'hpk).toNat : Int) = (A k : Int) := by rw [wrap64_small _ (s[pos + k]'hpk).toNat_lt, byte_get, hAh.out]
            have hokk : okB A 128 191 k ↔ lk ≤ (A k : Int) ∧ (A k : Int) ≤ hk := by
              rw [hlk.out, hhk.out]; unfold okB; split <;> omega
            obtain ⟨bk, hbk⟩ : ∃ bk : Int, (A k : Int) = bk := ⟨_, rfl⟩
            rw [hbk] at hbk0 hokk; have hokk' := Lib.hid hokk; have hk0 : (0 : Int) ≤ (k : Int) := by omega
            have hk2 : (k : Int) < 4 := by omega
            have hk3 : (pos : Int) + (k : Int) < (s.size : Int) := by omega
            clear hokk hbk; by_cases hbad : lk ≤ bk ∧ bk ≤ hk
            · obtain ⟨g1, g2⟩ := hbad; have hgood := Lib.hid (hokk'.out.2 ⟨g1, g2⟩); go_wp2; go_round
              case rel => exact ⟨k + 1, 128, 191, by omega, by omega, by go_num, rfl, rfl, Lib.hid (by rw [if_neg (by omega)]), Lib.hid (by rw [if_neg (by omega)]), Lib.hid (fun j h1 h2 => by
                rcases Nat.lt_or_ge j k with h' | h'
                · exact hok.out j h1 h'
                · obtain rfl : j = k := by omega
                  exact hgood.out)⟩
              case measure => simp [intOf]; omega
            · have hres := Lib.hid (show tot = false by
                rcases hu9h.out with ⟨h, _⟩ | ⟨_, _, _, h⟩
                · rw [← hu.out]; exact u8_drop_no s pos hlt h
                · exact absurd (hokk'.out.1 (h k hk1 hkl)) hbad)
              by_cases g1 : bk < lk
              · clear hbad; go_wp2; go_ret; exact ⟨by rw [hres.out]; rfl, rfl⟩
              · have g2 : hk < bk := by omega
                have g3 : lk ≤ bk := by omega
                clear hbad g1; go_wp2; go_ret; exact ⟨by rw [hres.out]; rfl, rfl⟩
          · obtain rfl : k = 4 := by omega
            have hnext := Lib.hid (show _root_.Go.Proofs.YtlonokcaddpniaaGreatDoor.u8 (s.data.toList.drop (pos + 4)) = tot by
              rcases hu9h.out with ⟨_, h | h | h⟩ | ⟨h, _⟩
              · exact absurd h (by omega)
              · exact absurd hfit h
              · exact absurd hok.out h
              · have := u8_drop_yes s pos hlt (by rw [h]; omega)
                rw [h] at this; exact this.trans hu.out)
            go_wp2; go_round
            case rel => exact ⟨pos + 4, by go_num, by omega, hnext⟩
            case measure => simp [intOf]; omega
      · obtain ⟨c1, rfl, rfl, rfl⟩ := hcc
        have hres := Lib.hid (show tot = false by
          rcases hu9 with ⟨h, _⟩ | ⟨_, h, _⟩
          · rw [← hu.out]; exact u8_drop_no s pos hlt h
          · exact absurd rfl h)
        clear hu9 hA; rcases c1 with c1 | c1
        all_goals
          go_wp2; go_ret; exact ⟨by rw [hres.out]; rfl, rfl⟩
theorem keysOk_iff (ks : List ByteArray) : keysOk ks = true ↔ (∀ k ∈ ks, keyOk k = true) ∧ ks.Nodup := by
  induction ks with
  | nil => simp [keysOk]
  | cons a tl ih =>
    unfold keysOk; simp only [Bool.and_eq_true, ih, List.mem_cons, forall_eq_or_imp, List.nodup_cons]
    have e : (!(tl.any fun x => x.toList == a.toList)) = true ↔ a ∉ tl := by
      rw [Bool.not_eq_true', List.any_eq_false]; constructor
      · intro h hm; exact h a hm (by simp)
      · intro h x hx he; have : x = a := (same_iff x a).1 (by simpa using he); exact h (this ▸ hx)
    rw [e]; constructor
    · rintro ⟨⟨h1, h2⟩, h3, h4⟩; exact ⟨⟨h1, h3⟩, h2, h4⟩
    · rintro ⟨⟨h1, h3⟩, h2, h4⟩; exact ⟨⟨h1, h2⟩, h3, h4⟩
theorem toList_nil {x : ByteArray} (h : x.size = 0) : x.toList = [] := by rw [size0 h]; decide +kernel
theorem toList_ne {x : ByteArray} (h : ¬ x.size = 0) : x.toList.isEmpty = false := by
  rw [Bool.eq_false_iff, ne_eq, List.isEmpty_iff]; intro e; apply h; have : x = ByteArray.empty := (same_iff x ByteArray.empty).1 (by rw [e]; decide +kernel); rw [this]; rfl
def strok (s : ByteArray) : Prop := s.size ≤ maxLen
def decI1 : Value → Option Int
  | .int .i64 a => some a
  | _ => none
theorem mapT_str : MapT Tryz.prog 93 9 3 (fun s : ByteArray => .string s) (fun s => .string s.data.toList) strok (fun i : Int => .int .i64 i) decI1 0 where
  ht := Tryz.underlying93
  K := Maps.string_keyed Tryz.underlying9
  hkey := fun x hx => WideMaps.keyOf_string_mk Tryz.underlying9 hx
  inj := fun x y _ _ h => by
    injection h with h; cases x; cases y; simp at h; subst h; rfl
  de := fun y => rfl
  ed := fun v y h => by
    unfold decI1 at h; split at h
    · injection h with h; subst h; rfl
    · cases h
  hz := fun w => by kernel_rfl
theorem look_run {w : World} {b cnt : Nat} {h : ByteArray → Option Int} (M : MapG Tryz.prog 9 (fun s : ByteArray => Lit.string s.data.toList) strok decI1 w b h cnt) (u : ByteArray) (hu : strok u) :
    (Instr.lookup 93 (.map (some b)) (.string u) false).run Tryz.prog w = .ok (.int .i64 ((h u).getD 0)) w := by
  obtain ⟨D, h1, h2, h3⟩ := M; obtain ⟨v, ps, hrun, hv⟩ := h1.lookup mapT_str.K mapT_str.ht (mapT_str.hz w) (zd := .held 0) (zp := []) (by simp [decR, decI1]) (mapT_str.hkey u hu); rw [hrun, MapG.elem mapT_str (h3 u hu) hv]
open Classical in
set_option maxRecDepth 100000 in
set_option maxHeartbeats 3200000 in
theorem keyed_any (w : World) (ka : Option Addr) (kc : Nat) (ks : List ByteArray) (hK : Slc strEnc 1 w (.slice ka ks.length kc) ks) (hmk : (ks.length : Int) ≤ 9223372036854775807) (hT : Tb w) :
    Calls Tryz.prog 160 #[.slice ka ks.length kc] w fun e w' => e = .returned (.bool (keysOk ks)) ∧ Below w.heap.size w w' := by
  obtain ⟨tot, htot⟩ : ∃ tot, keysOk ks = tot := ⟨_, rfl⟩
  have htot' := Lib.hid htot; rw [htot]; clear htot; have hB0 := (Below.refl w.heap.size w).alloc (Nat.le_refl _) (.map #[] 0); have hM0 : MapG Tryz.prog 9 (fun s : ByteArray => Lit.string s.data.toList) strok decI1 (w.alloc (.map #[] 0)) w.heap.size (fun _ => none) 0 := MapG.made w; have hTh := Lib.hid hT; clear hT; have hmm := @run_makeMap Tryz.prog; go_enter Tryz.func160, Tryz.ntmps160; go_wp2; go_loopw [9] (fun s9 wr => ∃ k : Nat, k ≤ ks.length ∧ s9 = .int .i64 k ∧ Hid (∀ j, (h : j < ks.length) → j < k → keyOk ks[j] = true) ∧ Hid (ks.take k).Nodup ∧ MapG Tryz.prog 9 (fun s : ByteArray => Lit.string s.data.toList) strok decI1 wr w.heap.size (fun x => if x ∈ ks.take k then some 1 else none) k ∧ Below w.heap.size w wr) (fun s9 _ => ks.length - (intOf s9).toNat)
  case atStart => exact ⟨0, by omega, rfl, Lib.hid (fun j h h0 => absurd h0 (by omega)), Lib.hid (by simp), by simpa using hM0, hB0⟩
  case round =>
    clear hM0 hB0; obtain ⟨k, hk, rfl, hok, hnd, hM, hB⟩ := hrel; by_cases hlt : k < ks.length
    · have hKk := hK.pure hB; obtain ⟨g, off, rfl⟩ := hKk.addrB hlt; have q0 := hKk.get k hlt 0 _ rfl; rw [Nat.mul_one, Nat.add_zero] at q0; have h1 : (k : Int) < (ks.length : Int) := by omega
      obtain ⟨x, hx⟩ : ∃ x, ks[k] = x := ⟨_, rfl⟩
      rw [hx] at q0; have hxh := Lib.hid hx; clear hx
      have hbad := Lib.hid (fun (h : keyOk x = false ∨ x ∈ ks.take k) => show tot = false by
        rw [← htot'.out, Bool.eq_false_iff, ne_eq, keysOk_iff]; rintro ⟨g1, g2⟩; rcases h with h | h
        · have := g1 ks[k] (List.getElem_mem hlt); rw [hxh.out, h] at this; cases this
        · obtain ⟨j, hj, he⟩ := List.getElem_of_mem h; rw [List.getElem_take] at he; have hjk : j < k := by rw [List.length_take] at hj; omega
          have := (List.getElem_inj g2).1 (he.trans hxh.out.symm)
          omega)
      by_cases z1 : x.size = 0
      · have e1 : x.toList = [] := toList_nil z1; have hres := Lib.hid (hbad.out (.inl (by unfold keyOk; simp [z1]))); go_wp2; go_ret; exact ⟨by rw [hres.out]; rfl, hB⟩
      have e1 : x.toList.isEmpty = false := toList_ne z1; have e2 : ¬ x.toList = [] := fun h => by rw [h] at e1; cases e1
      by_cases z2 : 255 < x.size
      · have hres := Lib.hid (hbad.out (.inl (by unfold keyOk; simp [show ¬ x.size ≤ 255 by omega]))); have e3 : (255 : Int) < (x.size : Int) := by omega
        go_wp2; go_ret; exact ⟨by rw [hres.out]; rfl, hB⟩
      have e3 : decide ((255 : Int) < (x.size : Int)) = false := decide_eq_false (by omega); have hxs : strok x := by unfold strok maxLen; omega
      obtain ⟨b, hb⟩ : ∃ b, u8s x = b := ⟨_, rfl⟩
      have hpl0 := plain_any x wr (by omega) (hTh.out.pure hB); rw [hb] at hpl0; have hpl := Lib.hid hpl0; have hbh := Lib.hid hb; clear hpl0 hb; cases b
      · have hres := Lib.hid (hbad.out (.inl (by unfold keyOk; simp [hbh.out]))); go_wp2_with (go_at_call 159; (with_reducible refine hpl.out.mono ?_); rintro e w1 ⟨rfl, hB1⟩); go_ret; exact ⟨by rw [hres.out]; rfl, hB.trans (hB1.mono hB.size)⟩
      by_cases z3 : x ∈ ks.take k
      · have hres := Lib.hid (hbad.out (.inr z3)); have hlk := Lib.hid (show (if x ∈ ks.take k then some (1 : Int) else none) = some 1 by rw [if_pos z3]); clear z3; go_wp2_with (first | (go_at_call 159; (with_reducible refine hpl.out.mono ?_); rintro e w1 ⟨rfl, hB1⟩; have hM1 := hM.pure hB1; have hlr := look_run hM1 x hxs; rw [hlk.out] at hlr; simp only [Option.getD_some] at hlr)); go_ret; exact ⟨by rw [hres.out]; rfl, hB.trans (hB1.mono hB.size)⟩
      · have hlk := Lib.hid (show (if x ∈ ks.take k then some (1 : Int) else none) = none by rw [if_neg z3]); have hnin := Lib.hid z3; have hkm := Lib.hid (show keyOk x = true by unfold keyOk; simp [hbh.out]; omega); clear z3; go_wp2_with (first | (go_at_call 159; (with_reducible refine hpl.out.mono ?_); rintro e w1 ⟨rfl, hB1⟩; have hM1 := hM.pure hB1; have hlr := look_run hM1 x hxs; rw [hlk.out] at hlr; simp only [Option.getD_none] at hlr) | (refine wpList_putG _ mapT_str rfl (.tmp 31) (.tmp 32) (.tmp 34) rfl rfl hM1 (by unfold maxLen; omega) x 1 rfl rfl hxs ?_; intro w2 hM2 hgr2)); have hB2 := (hB.trans (hB1.mono hB.size)).grown hgr2 (Nat.le_trans hB.size hB1.size) (fun j e => by cases e; exact Nat.le_refl _); rw [hlk.out] at hM2; have htk := List.take_succ_eq_append_getElem hlt; rw [hxh.out] at htk
        have hM3 : MapG Tryz.prog 9 (fun s : ByteArray => Lit.string s.data.toList) strok decI1 w2 w.heap.size (fun y => if y ∈ ks.take (k + 1) then some 1 else none) (k + 1) := by
          refine (by simpa using hM2 : MapG Tryz.prog 9 (fun s : ByteArray => Lit.string s.data.toList) strok decI1 w2 w.heap.size _ (k + 1)).ext (fun y _ => ?_); rw [htk, List.mem_append, List.mem_singleton]; by_cases hy : y = x <;> simp [hy]
        go_roundw
        case rel => exact ⟨k + 1, by omega, by go_num, Lib.hid (fun j h h0 => by
          rcases Nat.lt_or_ge j k with h' | h'
          · exact hok.out j h h'
          · obtain rfl : j = k := by omega
            rw [hxh.out]; exact hkm.out), Lib.hid (by rw [htk, List.nodup_append]; exact ⟨hnd.out, by simp, fun a ha b hb => by simp at hb; subst hb; exact fun e => hnin.out (e ▸ ha)⟩), hM3, hB2⟩
        case measure => simp [intOf]; omega
    · obtain rfl : k = ks.length := by omega
      have hres := Lib.hid (show tot = true by
        rw [← htot'.out, keysOk_iff]; refine ⟨fun x hx => ?_, by have := hnd.out; rwa [List.take_length] at this⟩; obtain ⟨j, hj, rfl⟩ := List.getElem_of_mem hx
        exact hok.out j hj hj)
      go_wp2; go_ret; exact ⟨by rw [hres.out]; rfl, hB⟩
theorem below_dr {a w : World} {B : Nat} (h : Below B a w) : Below B a w.drew := ⟨h.os, h.tape, h.output, h.size, h.block⟩
set_option maxRecDepth 100000 in
set_option maxHeartbeats 3200000 in
theorem dkeys_any (w : World) (ka : Option Addr) (kc : Nat) (ks : List ByteArray) (hK : Slc strEnc 1 w (.slice ka ks.length kc) ks) (hmk : (ks.length : Int) ≤ 9223372036854775807) :
    Calls Tryz.prog 156 #[.slice ka ks.length kc] w fun e w' => e = .returned (.bool (keysOk ks)) ∧ Below w.heap.size w w' := by
  obtain ⟨tot, htot⟩ : ∃ tot, keysOk ks = tot := ⟨_, rfl⟩
  have htot' := Lib.hid htot; rw [htot]; clear htot; go_enter Tryz.func156, Tryz.ntmps156; go_wp2; go_loopw [3] (fun s3 wr => ∃ k : Nat, k ≤ ks.length ∧ s3 = .int .i64 k ∧ Hid (∀ j, (h : j < ks.length) → j < k → keyOk ks[j] = true) ∧ Hid (ks.take k).Nodup ∧ Below w.heap.size w wr) (fun s3 _ => ks.length - (intOf s3).toNat)
  case atStart => exact ⟨0, by omega, rfl, Lib.hid (fun j h h0 => absurd h0 (by omega)), Lib.hid (by simp), Below.refl _ _⟩
  case round =>
    obtain ⟨k, hk, rfl, hok, hnd, hB⟩ := hrel; by_cases hlt : k < ks.length
    · have hKk := hK.pure hB; obtain ⟨g, off, rfl⟩ := hKk.addrB hlt; have q0 := hKk.get k hlt 0 _ rfl; rw [Nat.mul_one, Nat.add_zero] at q0; have h1 : (k : Int) < (ks.length : Int) := by omega
      obtain ⟨x, hx⟩ : ∃ x, ks[k] = x := ⟨_, rfl⟩
      rw [hx] at q0; have hxh := Lib.hid hx; clear hx
      have hbad := Lib.hid (fun (h : keyOk x = false ∨ x ∈ ks.take k) => show tot = false by
        rw [← htot'.out, Bool.eq_false_iff, ne_eq, keysOk_iff]; rintro ⟨g1, g2⟩; rcases h with h | h
        · have := g1 ks[k] (List.getElem_mem hlt); rw [hxh.out, h] at this; cases this
        · obtain ⟨j, hj, he⟩ := List.getElem_of_mem h; rw [List.getElem_take] at he; have hjk : j < k := by rw [List.length_take] at hj; omega
          have := (List.getElem_inj g2).1 (he.trans hxh.out.symm)
          omega)
      by_cases z1 : x.size = 0
      · have hres := Lib.hid (hbad.out (.inl (by unfold keyOk; simp [z1]))); have e1 : (x.size : Int) < 1 := by omega
        have e2 : x.size < 1 := by omega
        go_wp2; go_ret; exact ⟨by rw [hres.out]; rfl, hB⟩
      have e1 : (1 : Int) ≤ (x.size : Int) := by omega
      by_cases z2 : 255 < x.size
      · have hres := Lib.hid (hbad.out (.inl (by unfold keyOk; simp [show ¬ x.size ≤ 255 by omega]))); have e3 : (255 : Int) < (x.size : Int) := by omega
        clear z1; go_wp2; go_ret; exact ⟨by rw [hres.out]; rfl, hB⟩
      have e2 : decide ((x.size : Int) < 1) = false := decide_eq_false (by omega); have e3 : decide ((255 : Int) < (x.size : Int)) = false := decide_eq_false (by omega); have hxs : (x.size : Int) ≤ 255 := by omega
      obtain ⟨b, hb⟩ : ∃ b, u8s x = b := ⟨_, rfl⟩
      have hpl0 := dutf8_any x wr (by omega); rw [hb] at hpl0; have hpl := Lib.hid hpl0; have hbh := Lib.hid hb; clear hpl0 hb; cases b
      · have hres := Lib.hid (hbad.out (.inl (by unfold keyOk; simp [hbh.out]))); clear z1 z2; go_wp2_with (go_at_call 155; (with_reducible refine hpl.out.mono ?_); rintro e w1 ⟨rfl, rfl⟩); go_ret; exact ⟨by rw [hres.out]; rfl, hB⟩
      have hkm := Lib.hid (show keyOk x = true by unfold keyOk; simp [hbh.out]; omega); have htk := Lib.hid (List.take_succ_eq_append_getElem hlt); clear z1 z2; go_wp2_with (go_at_call 155; (with_reducible refine hpl.out.mono ?_); rintro e w1 ⟨rfl, rfl⟩); obtain ⟨wo, hwo⟩ : ∃ wo : World, wo = wr := ⟨_, rfl⟩
      rw [← hwo] at hB q0 ⊢; clear hKk hwo; go_loopw [4] (fun s4 wq => ∃ j : Nat, j ≤ k ∧ s4 = .int .i64 j ∧ Hid (x ∉ ks.take j) ∧ Below w.heap.size w wq) (fun s4 _ => k - (intOf s4).toNat)
      case atStart => exact ⟨0, by omega, rfl, Lib.hid (by simp), hB⟩
      case round =>
        clear q0 hB; obtain ⟨j, hj, rfl, hnin, hB⟩ := hrel; by_cases hjk : j < k
        · have hKk := hK.pure hB; have hjl : j < ks.length := by omega
          have q0 := hKk.get k hlt 0 _ rfl; have q1 := hKk.get j hjl 0 _ rfl; rw [Nat.mul_one, Nat.add_zero] at q0 q1; rw [hxh.out] at q0; obtain ⟨y, hy⟩ : ∃ y, ks[j] = y := ⟨_, rfl⟩
          rw [hy] at q1; have hyh := Lib.hid hy; clear hy; have j1 : (j : Int) < (k : Int) := by omega
          have j2 : (j : Int) < (ks.length : Int) := by omega
          have j0 : (0 : Int) ≤ (j : Int) := by omega
          have k0 : (0 : Int) ≤ (k : Int) := by omega
          have htj := Lib.hid (List.take_succ_eq_append_getElem hjl); by_cases hyx : y = x
          · have e5 : (y.toList == x.toList) = true := (same_iff y x).2 hyx; have hres := Lib.hid (hbad.out (.inr (by rw [← hyx, ← hyh.out]; exact List.mem_take_iff_getElem.2 ⟨j, by omega, rfl⟩))); clear hyx; go_wp2; go_region
            all_goals
              go_wp2; go_ret; exact ⟨by rw [hres.out]; rfl, below_dr hB⟩
          · have e5 : (y.toList == x.toList) = false := by rw [Bool.eq_false_iff, ne_eq, same_iff]; exact hyx
            have hyx' := Lib.hid hyx; clear hyx; go_wp2; go_region
            all_goals
              go_wp2; go_roundw
              case rel => exact ⟨j + 1, by omega, by go_num, Lib.hid (by rw [htj.out, List.mem_append, List.mem_singleton, hyh.out]; rintro (h | h); exact hnin.out h; exact hyx'.out h.symm), below_dr hB⟩
              case measure => simp [intOf]; omega
        · obtain rfl : j = k := by omega
          go_wp2; go_roundw
          case rel => exact ⟨j + 1, by omega, by go_num, Lib.hid (fun i h h0 => by
            rcases Nat.lt_or_ge i j with h' | h'
            · exact hok.out i h h'
            · obtain rfl : i = j := by omega
              rw [hxh.out]; exact hkm.out), Lib.hid (by rw [htk.out, hxh.out, List.nodup_append]; exact ⟨hnd.out, by simp, fun a ha b hb => by simp at hb; subst hb; exact fun e => hnin.out (e ▸ ha)⟩), hB⟩
          case measure => simp [intOf]; omega
    · obtain rfl : k = ks.length := by omega
      have hres := Lib.hid (show tot = true by
        rw [← htot'.out, keysOk_iff]; refine ⟨fun x hx => ?_, by have := hnd.out; rwa [List.take_length] at this⟩; obtain ⟨j, hj, rfl⟩ := List.getElem_of_mem hx
        exact hok.out j hj hj)
      go_wp2; go_ret; exact ⟨by rw [hres.out]; rfl, hB⟩
end Go.Proofs.YtlonokcaddpniaaGreatDoor
