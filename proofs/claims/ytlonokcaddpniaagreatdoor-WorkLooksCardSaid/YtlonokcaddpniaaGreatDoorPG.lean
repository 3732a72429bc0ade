/- Properties: what Get tells; flags; the program's reader of texts. Conditions: none. Written by gen_prH.py. (Texts joined.) -/
import Derived.Test.YtlonokcaddpniaaGreatDoorPA
import Derived.Test.YtlonokcaddpniaaGreatDoorKB
import Derived.Test.YtlonokcaddpniaaGreatDoorKC
import Derived.Lib.ConvBytes
import Derived.Test.YtlonokcaddpniaaGreatDoorPD
set_option linter.unusedSimpArgs false
set_option linter.unusedVariables false
namespace Go.Proofs.YtlonokcaddpniaaGreatDoor
open Go.RowKit
theorem conv_bytes (w : World) (s : ByteArray) (hs : s.size ≤ 1000000000) : ∃ c W, (convert 9 114 (.string s)).run Tryz.prog w = .ok (.slice (some ⟨w.heap.size, 0, none⟩) s.size c) W ∧ Slc byEnc 1 W (.slice (some ⟨w.heap.size, 0, none⟩) s.size c) s.data.toList ∧ Below w.heap.size w W := by
  refine ⟨_, _, Lib.run_convert_string_bytes w _ _ 5 s Tryz.underlying9 Tryz.underlying114 Tryz.underlying5, ?_, ?_⟩
  · have e : s.data.toList.length = s.size := ba_len s; refine .inr ⟨w.heap.size, 0, _, by rw [e], by rw [e]; exact grownCap_ge _ _ _ _, grownCap_le_maxLen _ _ _ _ (by unfold maxLen; omega), fun i hi j u hu => ?_⟩; have hj : j < 1 := (List.getElem?_eq_some_iff.1 hu).1; obtain rfl : j = 0 := by omega
    rw [show 0 + i * 1 + 0 = i by omega, Lib.bytesWorld_cell w _ s i (by omega), List.getD_eq_getElem?_getD, List.getElem?_eq_getElem hi]; exact hu
  · exact ⟨rfl, rfl, rfl, by rw [Lib.bytesWorld_size]; omega, fun k hk => Lib.bytesWorld_at_old w _ s k hk⟩
theorem tkR_le (n : Nat) (r : RS) : (tkR n r).2.1.length ≤ r.1.length := by unfold tkR; split <;> simp
theorem nmR_le (n : Nat) (r : RS) : (nmR n r).2.1.length ≤ r.1.length := by
  unfold nmR; split
  · rcases h : gN n r.1 with _ | ⟨m, b⟩
    · simp
    · exact (gN_lt h).2.1
  · simp
theorem gT_le {w most : Nat} {b : List UInt8} {s : ByteArray} {r : List UInt8} (h : gT w most b = some (s, r)) : r.length ≤ b.length ∧ s.size ≤ most := by
  obtain ⟨⟨n, b1⟩, hn, hg⟩ := bind_inv h; have h1 := (gN_lt hn).2.1; dsimp only at hg; split at hg
  · rename_i hc; simp only [Option.some.injEq, Prod.mk.injEq] at hg; obtain ⟨rfl, rfl⟩ := hg; refine ⟨by rw [List.length_drop]; omega, ?_⟩; have : (List.take n b1).length ≤ most := by rw [List.length_take]; omega
    simpa [ByteArray.size] using this
  · simp at hg
theorem txR_le (n m : Nat) (r : RS) : (txR n m r).2.1.length ≤ r.1.length := by
  unfold txR; split
  · rcases h : gT n m r.1 with _ | ⟨s, b⟩
    · simp
    · exact (gT_le h).1
  · simp
theorem tkTx_le (is : Bool) (r : RS) : (tkTx is r).2.1.length ≤ r.1.length := by
  unfold tkTx; split
  · exact txR_le _ _ _
  · exact Nat.le_refl _
theorem nmR_lt (n : Nat) (r : RS) : (nmR n r).1 < 256 ^ n := by
  unfold nmR; split
  · rcases h : gN n r.1 with _ | ⟨m, b⟩
    · exact Nat.pow_pos (by omega)
    · exact (gN_lt h).1
  · exact Nat.pow_pos (by omega)
theorem ptake_rs (w : World) (rb vb : Nat) (r : RS) (n : Nat) (hp : RdP w rb vb) (hs : RdS w vb r.1 r.2) (hL : Big r.1.length) :
    Calls Tryz.prog 116 #[.pointer (some ⟨rb, 0, none⟩), .int .i64 n] w fun e w' => ∃ v, e = .returned v ∧ Slc byEnc 1 w' v (tkR n r).1 ∧ (∀ k, v.ownBlock = some k → w.heap.size ≤ k) ∧ RdS w' vb (tkR n r).2.1 (tkR n r).2.2 ∧ Upd (Only vb) w w' := by
  obtain ⟨b, bad⟩ := r; unfold tkR; by_cases h : bad = false ∧ n ≤ b.length
  · obtain ⟨rfl, h2⟩ := h; rw [if_pos ⟨rfl, h2⟩]; exact (take_yes w rb vb b n hp hs h2 hL).mono fun e w' ⟨v, he, hO, hr, hu⟩ => ⟨v, he, hO.slc byEnc_len, fun k hk => hO.ge hk, hr, hu⟩
  · rw [if_neg h]; refine (take_no w rb vb b bad n hp hs (by cases bad with | true => exact .inl rfl | false => exact .inr (by have : ¬ n ≤ b.length := fun e => h ⟨rfl, e⟩; omega))).mono fun e w' ⟨he, hr, hu⟩ => ⟨_, he, Slc.nil0, (fun k hk => by cases hk), hr, hu⟩
theorem pnum_rs (w : World) (rb vb : Nat) (r : RS) (wd : Nat) (hp : RdP w rb vb) (hs : RdS w vb r.1 r.2) (hw : Wd wd) (hL : Big r.1.length) :
    Calls Tryz.prog 87 #[.pointer (some ⟨rb, 0, none⟩), .int .i64 wd] w fun e w' => e = .returned (.int .u64 (nmR wd r).1) ∧ RdS w' vb (nmR wd r).2.1 (nmR wd r).2.2 ∧ Upd (Only vb) w w' := by
  obtain ⟨b, bad⟩ := r; unfold nmR
  cases bad with
  | true =>
    rw [if_neg (by simp)]; exact num_no w rb vb b true wd hp hs hw (.inl rfl)
  | false =>
    rw [if_pos rfl]; rcases h : gN wd b with _ | ⟨n, b1⟩
    · refine num_no w rb vb b false wd hp hs hw (.inr ?_); rcases gN_or wd b with h1 | ⟨n, r, h1⟩
      · exact h1
      · rw [h1] at h; cases h
    · exact num_yes w rb vb b wd n b1 hp hs hw h hL
theorem ptext_rs (w : World) (rb vb : Nat) (r : RS) (wd most : Nat) (hp : RdP w rb vb) (hs : RdS w vb r.1 r.2) (hw : wd = 1 ∨ wd = 2 ∨ wd = 4) (hL : Big r.1.length) (hM : Big most) :
    Calls Tryz.prog 88 #[.pointer (some ⟨rb, 0, none⟩), .int .i64 wd, .int .i64 most] w fun e w' => e = .returned (.string (txR wd most r).1) ∧ RdS w' vb (txR wd most r).2.1 (txR wd most r).2.2 ∧ Upd (Only vb) w w' := by
  obtain ⟨b, bad⟩ := r; unfold txR
  cases bad with
  | true =>
    rw [if_neg (by simp)]; exact text_no w rb vb b true wd most hp hs hw (.inl rfl) hL hM
  | false =>
    rw [if_pos rfl]; rcases h : gT wd most b with _ | ⟨s, b1⟩
    · exact text_no w rb vb b false wd most hp hs hw (.inr h) hL hM
    · exact text_yes w rb vb b wd most s b1 hp hs hw h hL hM
def Pr.zero : Pr := ⟨⟨#[]⟩, false, false, ⟨#[]⟩, V.zero⟩
/-- What Get tells. -/
def pgO (b : List UInt8) : Option Pr := if (pgD b).chk = 0 ∧ (pgD b).bytes = b then some (pgD b) else none
theorem pgO_got (b : List UInt8) : PrGot b (pgO b) := prGot_D (pgD_wf b)
theorem pgO_P (b : List UInt8) : pgO b = if (pgP b).2.2 = false ∧ (pgP b).1.chk = 0 ∧ (pgP b).1.bytes = b then some (pgP b).1 else none := prGot_one (pgO_got b) (prGot_P (pgP_wf b))
def prE (o : Option Pr) : Int := match o with | some _ => 0 | none => 90
def prV (o : Option Pr) : Pr := match o with | some p => p | none => Pr.zero
def GotP (w : World) (o : Option Pr) (e : Ending) (w' : World) : Prop := ∃ t : PT, e = .returned (.tuple #[t.arg, .int .i64 (prE o)]) ∧ t.p = prV o ∧ Rd (fun i => w.heap.size ≤ i) w' t.app ∧ Below w.heap.size w w'
theorem text_eq {p : Pr} {s : ByteArray} : p.text = s ↔ p.bytes = s.data.toList := by
  unfold Pr.text; constructor
  · intro h; rw [← h]
  · intro h; rw [h]
theorem and_u64 (x y : Nat) (hx : x < 2^64) (hy : y < 2^64) : bits .and .u64 (x : Int) (y : Int) = ((x &&& y : Nat) : Int) := by
  have h : x &&& y < 2^64 := Nat.and_lt_two_pow x hy; unfold bits; simp only [BitVec.toNat_and, ofInt64 x hx, ofInt64 y hy]; exact wrap_u64 _ (by omega) (by omega)
theorem and_bit (n i : Nat) (hn : n < 65536) (hi : i < 3) (m : Int) (hm : m = ((2 ^ i : Nat) : Int)) : (bits .and .u64 (n : Int) m != 0) = (n / 2 ^ i % 2 == 1) := by
  have hp : 2 ^ i < 2 ^ 64 := Nat.pow_lt_pow_right (by omega) (by omega); subst hm
  have key : n &&& 2 ^ i = if n.testBit i then 2 ^ i else 0 := by
    apply Nat.eq_of_testBit_eq; intro j; rw [Nat.testBit_and, Nat.testBit_two_pow]; by_cases e : i = j
    · subst e; cases h : n.testBit i <;> simp [Nat.testBit_two_pow]
    · simp only [e, decide_false, Bool.and_false]; split
      · rw [Nat.testBit_two_pow]; simp [e]
      · simp
  rw [and_u64 n (2 ^ i) (by omega) hp, key, Nat.testBit_eq_decide_div_mod_eq]; have h2 : 0 < 2 ^ i := Nat.pow_pos (by omega); by_cases h : n / 2 ^ i % 2 = 1
  · simp only [h, decide_true, if_true, beq_self_eq_true, bne_iff_ne]; omega
  · simp only [h, decide_false, beq_eq_false_iff_ne.2 h]; rfl
theorem and_1 {n : Nat} (hn : n < 65536) : (bits .and .u64 (n : Int) 1 != 0) = (n % 2 == 1) := by
  have := and_bit n 0 hn (by omega) 1 rfl; rwa [Nat.pow_zero, Nat.div_one] at this
theorem and_2 {n : Nat} (hn : n < 65536) : (bits .and .u64 (n : Int) 2 != 0) = (n / 2 % 2 == 1) := and_bit n 1 hn (by omega) 2 rfl
theorem and_4 {n : Nat} (hn : n < 65536) : (bits .and .u64 (n : Int) 4 != 0) = (n / 4 % 2 == 1) := and_bit n 2 hn (by omega) 4 rfl
set_option maxRecDepth 100000 in
set_option maxHeartbeats 1600000 in
theorem preader_any (w : World) (rb vb : Nat) (r : RS) (there : Bool) (hp : RdP w rb vb) (hs : RdS w vb r.1 r.2) (hL : Big r.1.length) :
    Calls Tryz.prog 118 #[.agg #[.pointer (some ⟨rb, 0, none⟩)], .bool there] w fun e w' => e = .returned (.string (tkTx there r).1) ∧ RdS w' vb (tkTx there r).2.1 (tkTx there r).2.2 ∧ Upd (Only vb) w w' := by
  have hA := (Below.refl w.heap.size w).alloc (Nat.le_refl _) (.cells #[.pointer (some ⟨rb, 0, none⟩)] 162); have hu := Upd.of_below (S := Only vb) hA; have b1 := Blk.new w [.pointer (some ⟨rb, 0, none⟩)] 162; have c0 := b1.at 0 rfl; have hp1 := hp.pure hA; have hs1 := hs.pure hA; cases there
  · go_enter Tryz.func118, Tryz.ntmps118; go_wp2; go_ret; exact ⟨rfl, hs1, hu⟩
  · obtain ⟨x, hx⟩ : ∃ x, txR 1 255 r = x := ⟨_, rfl⟩
    have ht := ptext_rs _ rb vb r 1 255 hp1 hs1 (by omega) hL (by unfold Big; omega); rw [hx] at ht; have hth := Lib.hid ht; rw [show tkTx true r = x from hx]; clear ht hx; go_enter Tryz.func118, Tryz.ntmps118; go_wp2_with (go_at_call 88; refine (hth.out).mono ?_; rintro e w2 ⟨rfl, hs2, hu2⟩); go_ret; exact ⟨rfl, hs2, hu.only2 hu2⟩
end Go.Proofs.YtlonokcaddpniaaGreatDoor
