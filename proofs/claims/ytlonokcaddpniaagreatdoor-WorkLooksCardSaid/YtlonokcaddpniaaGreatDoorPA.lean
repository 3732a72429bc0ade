/- Properties: Same (both sides), Copy, Small (the document's), Check (the program's). Conditions: utf8's tables are laid (the program's Check). Written by gen_prB.py. (Texts joined.) -/
import Derived.Test.YtlonokcaddpniaaGreatDoorKJ
import Derived.Test.YtlonokcaddpniaaGreatDoorKP
set_option linter.unusedSimpArgs false
set_option linter.unusedVariables false
namespace Go.Proofs.YtlonokcaddpniaaGreatDoor
/-- A message's properties. -/
structure Pr where
  key : ByteArray
  dur : Bool
  red : Bool
  id : ByteArray
  app : V
def V.zero : V := .mk 0 0 ⟨#[]⟩ [] []
/-- Is it the value of nothing? -/
def V.isZ (v : V) : Bool := v.kind == 0 && v.num == 0 && v.str.size == 0 && v.keys.isEmpty && v.list.isEmpty
theorem isZ_iff (v : V) : v.isZ = true ↔ v = V.zero := by
  obtain ⟨k, n, s, ks, l⟩ := v; unfold V.isZ V.zero; simp only [V.kind, V.num, V.str, V.keys, V.list, Bool.and_eq_true, beq_iff_eq, List.isEmpty_iff, V.mk.injEq]; constructor
  · rintro ⟨⟨⟨⟨h1, h2⟩, h3⟩, h4⟩, h5⟩; exact ⟨h1, h2, size0 h3, h4, h5⟩
  · rintro ⟨h1, h2, h3, h4, h5⟩; exact ⟨⟨⟨⟨h1, h2⟩, by rw [h3]; rfl⟩, h4⟩, h5⟩
instance isZ_dec (v : V) : Decidable (v = V.zero) := decidable_of_iff (v.isZ = true) (isZ_iff v)
/-- May they be? -/
def Pr.chk (p : Pr) : Int := if p.key.size ≤ 255 ∧ p.id.size ≤ 255 ∧ (p.app = V.zero ∨ p.app.kind = 168 ∧ p.app.chk = 0) then 0 else 90
theorem pr_chk (p : Pr) : p.chk = 0 ∨ p.chk = 90 := by unfold Pr.chk; split; exact .inl rfl; exact .inr rfl
theorem pr_ok {p : Pr} : p.chk = 0 ↔ p.key.size ≤ 255 ∧ p.id.size ≤ 255 ∧ (p.app = V.zero ∨ p.app.kind = 168 ∧ p.app.chk = 0) := by
  unfold Pr.chk; constructor
  · intro h; by_cases h1 : p.key.size ≤ 255 ∧ p.id.size ≤ 255 ∧ (p.app = V.zero ∨ p.app.kind = 168 ∧ p.app.chk = 0)
    · exact h1
    · rw [if_neg h1] at h; omega
  · intro h; exact if_pos h
/-- A short text, if it is not empty. -/
def stx (s : ByteArray) : List UInt8 := if s.size = 0 then [] else UInt8.ofNat s.size :: s.data.toList
def part (b : List UInt8) : List UInt8 := be 4 b.length ++ b
def fl1 (p : Pr) : Nat := (if p.dur then 1 else 0) + (if p.red then 2 else 0) + (if p.key.size = 0 then 0 else 4)
def fl2 (p : Pr) : Nat := (if p.id.size = 0 then 0 else 1) + (if p.app.kind = 168 then 2 else 0)
def body1 (p : Pr) : List UInt8 := [4, 1, 0, UInt8.ofNat (fl1 p)] ++ stx p.key
def body2 (p : Pr) : List UInt8 := [4, 3, 0, UInt8.ofNat (fl2 p)] ++ stx p.id ++ (if p.app.kind = 168 then p.app.bytes else [])
def Pr.bytes (p : Pr) : List UInt8 := part (body1 p) ++ (if fl2 p = 0 then [] else part (body2 p))
/-- The text that Put tells. -/
def Pr.text (p : Pr) : ByteArray := ⟨p.bytes.toArray⟩
/-- A reader: what is left, and whether it gave up. -/
abbrev RS := List UInt8 × Bool
def tkR (n : Nat) (r : RS) : List UInt8 × RS := if r.2 = false ∧ n ≤ r.1.length then (r.1.take n, (r.1.drop n, false)) else ([], ([], true))
def nmR (w : Nat) (r : RS) : Nat × RS := if r.2 = false then (match gN w r.1 with | some (n, b) => (n, (b, false)) | none => (0, ([], true))) else (0, ([], true))
def txR (w most : Nat) (r : RS) : ByteArray × RS := if r.2 = false then (match gT w most r.1 with | some (s, b) => (s, (b, false)) | none => (⟨#[]⟩, ([], true))) else (⟨#[]⟩, ([], true))
theorem tkR_app (l b : List UInt8) : tkR l.length (l ++ b, false) = (l, (b, false)) := by
  unfold tkR; rw [if_pos ⟨rfl, by simp⟩]; simp
theorem tkR_n (n : Nat) (l b : List UInt8) (h : l.length = n) : tkR n (l ++ b, false) = (l, (b, false)) := by subst h; exact tkR_app l b
theorem nmR_be (w n : Nat) (h : n < 256 ^ w) (b : List UInt8) : nmR w (be w n ++ b, false) = (n, (b, false)) := by
  unfold nmR; rw [if_pos rfl]; show (match gN w (be w n ++ b) with | some (n, b) => (n, ((b, false) : RS)) | none => (0, ([], true))) = _
  rw [gN_be w n h b]
theorem be_one {n : Nat} (h : n < 256) : be 1 n = [UInt8.ofNat n] := by unfold be; rw [Nat.mod_eq_of_lt h]; rfl
theorem be_two {n : Nat} (h : n < 256) : be 2 n = [0, UInt8.ofNat n] := by
  show be 1 (n / 256) ++ [UInt8.ofNat (n % 256)] = _
  rw [Nat.div_eq_of_lt h, Nat.mod_eq_of_lt h]; rfl
theorem txR_put (s : ByteArray) (h : s.size ≤ 255) (b : List UInt8) : txR 1 255 (UInt8.ofNat s.size :: (s.data.toList ++ b), false) = (s, (b, false)) := by
  unfold txR; rw [if_pos rfl]; have e := gT_put 1 255 s (by omega) h b; rw [be_one (by omega)] at e; show (match gT 1 255 ([UInt8.ofNat s.size] ++ (s.data.toList ++ b)) with | some (s, b) => (s, ((b, false) : RS)) | none => (⟨#[]⟩, ([], true))) = _
  rw [e]
def tkTx (there : Bool) (r : RS) : ByteArray × RS := if there then txR 1 255 r else (⟨#[]⟩, r)
theorem tkTx_put (s : ByteArray) (h : s.size ≤ 255) (b : List UInt8) (is : Bool) (hi : is = !(s.size == 0)) : tkTx is (stx s ++ b, false) = (s, (b, false)) := by
  subst hi; unfold tkTx stx; by_cases h0 : s.size = 0
  · rw [if_pos h0, h0]; show ((⟨#[]⟩ : ByteArray), ((b, false) : RS)) = _
    rw [size0 h0]; rfl
  · rw [if_neg h0]; have : (!(s.size == 0)) = true := by simp [h0]
    rw [this]; exact txR_put s h b
/-- What stands as properties, as far as it goes (the program's way). -/
def pgA (r : RS) : (Bool × Bool × ByteArray) × RS :=
  let f := nmR 2 (tkR 6 r).2
  let k := tkTx (f.1 / 4 % 2 == 1) f.2
  ((f.1 % 2 == 1, f.1 / 2 % 2 == 1, k.1), k.2)
def pgB (r : RS) : (ByteArray × V) × RS :=
  let f := nmR 2 (tkR 6 r).2
  let k := tkTx (f.1 % 2 == 1) f.2
  if f.1 / 2 % 2 = 1 then let t := tkR k.2.1.length k.2; ((k.1, getV (getP t.1)), t.2) else ((k.1, V.zero), k.2)
def pgP (b : List UInt8) : Pr × RS :=
  let x := pgA (b, false)
  if 0 < x.2.1.length then let y := pgB x.2; (⟨x.1.2.2, x.1.1, x.1.2.1, y.1.1, y.1.2⟩, y.2) else (⟨x.1.2.2, x.1.1, x.1.2.1, ⟨#[]⟩, V.zero⟩, x.2)
/-- The document's way. -/
def dgA (r : RS) : (Bool × Bool × ByteArray) × RS :=
  let f := nmR 1 (tkR 7 r).2
  let k := tkTx (f.1 / 4 % 2 == 1) f.2
  ((f.1 % 2 == 1, f.1 / 2 % 2 == 1, k.1), k.2)
def dgB (r : RS) : ByteArray × V :=
  let f := nmR 1 (tkR 7 r).2
  let k := tkTx (f.1 % 2 == 1) f.2
  (k.1, if f.1 / 2 % 2 = 1 then getV (getP k.2.1) else V.zero)
def pgD (b : List UInt8) : Pr :=
  let x := dgA (b, false)
  if 0 < x.2.1.length then let y := dgB x.2; ⟨x.1.2.2, x.1.1, x.1.2.1, y.1, y.2⟩ else ⟨x.1.2.2, x.1.1, x.1.2.1, ⟨#[]⟩, V.zero⟩
theorem fl1_lt (p : Pr) : fl1 p < 8 := by unfold fl1; cases p.dur <;> cases p.red <;> by_cases h : p.key.size = 0 <;> simp [h]
theorem fl2_lt (p : Pr) : fl2 p < 4 := by unfold fl2; by_cases h : p.id.size = 0 <;> by_cases h2 : p.app.kind = 168 <;> simp [h, h2]
theorem fl1_d (p : Pr) : (fl1 p % 2 == 1) = p.dur := by unfold fl1; cases p.dur <;> cases p.red <;> by_cases h : p.key.size = 0 <;> simp [h]
theorem fl1_r (p : Pr) : (fl1 p / 2 % 2 == 1) = p.red := by unfold fl1; cases p.dur <;> cases p.red <;> by_cases h : p.key.size = 0 <;> simp [h]
theorem fl1_k (p : Pr) : (fl1 p / 4 % 2 == 1) = !(p.key.size == 0) := by unfold fl1; cases p.dur <;> cases p.red <;> by_cases h : p.key.size = 0 <;> simp [h]
theorem fl2_i (p : Pr) : (fl2 p % 2 == 1) = !(p.id.size == 0) := by unfold fl2; by_cases h : p.id.size = 0 <;> by_cases h2 : p.app.kind = 168 <;> simp [h, h2]
theorem fl2_a (p : Pr) : (fl2 p / 2 % 2 = 1) ↔ p.app.kind = 168 := by unfold fl2; by_cases h : p.id.size = 0 <;> by_cases h2 : p.app.kind = 168 <;> simp [h, h2]
theorem fl2_z (p : Pr) : fl2 p = 0 ↔ p.id.size = 0 ∧ p.app.kind ≠ 168 := by unfold fl2; by_cases h : p.id.size = 0 <;> by_cases h2 : p.app.kind = 168 <;> simp [h, h2]
theorem be_len4 (n : Nat) : ∃ a b c d, be 4 n = [a, b, c, d] := by
  have h := be_len 4 n
  match be 4 n, h with
  | [a, b, c, d], _ => exact ⟨a, b, c, d, rfl⟩
theorem part_cons (b : List UInt8) (x y z c : UInt8) (r : List UInt8) : ∃ a1 a2 a3 a4, part ([x, y, z, c] ++ b) ++ r = [a1, a2, a3, a4, x, y] ++ ([z, c] ++ (b ++ r)) ∧ part ([x, y, z, c] ++ b) ++ r = [a1, a2, a3, a4, x, y, z] ++ ([c] ++ (b ++ r)) := by
  obtain ⟨a1, a2, a3, a4, h⟩ := be_len4 ([x, y, z, c] ++ b).length; refine ⟨a1, a2, a3, a4, ?_, ?_⟩ <;> · unfold part; rw [h]; simp
theorem pgA_put (p : Pr) (h : p.key.size ≤ 255) (r : List UInt8) : pgA (part (body1 p) ++ r, false) = ((p.dur, p.red, p.key), (r, false)) := by
  obtain ⟨a1, a2, a3, a4, e, -⟩ := part_cons (stx p.key) 4 1 0 (UInt8.ofNat (fl1 p)) r; have h8 := fl1_lt p; unfold pgA body1; rw [e, tkR_n 6 [a1, a2, a3, a4, 4, 1] _ rfl, ← be_two (show fl1 p < 256 by omega), nmR_be 2 _ (by omega)]; dsimp only; rw [tkTx_put p.key h r _ (fl1_k p), fl1_d, fl1_r]
theorem dgA_put (p : Pr) (h : p.key.size ≤ 255) (r : List UInt8) : dgA (part (body1 p) ++ r, false) = ((p.dur, p.red, p.key), (r, false)) := by
  obtain ⟨a1, a2, a3, a4, -, e⟩ := part_cons (stx p.key) 4 1 0 (UInt8.ofNat (fl1 p)) r; have h8 := fl1_lt p; unfold dgA body1; rw [e, tkR_n 7 [a1, a2, a3, a4, 4, 1, 0] _ rfl, ← be_one (show fl1 p < 256 by omega), nmR_be 1 _ (by omega)]; dsimp only; rw [tkTx_put p.key h r _ (fl1_k p), fl1_d, fl1_r]
theorem ok_app {p : Pr} (h : p.chk = 0) (hk : ¬ p.app.kind = 168) : p.app = V.zero := by
  rcases (pr_ok.1 h).2.2 with h | h
  · exact h
  · exact absurd h.1 hk
theorem ok_map {p : Pr} (h : p.chk = 0) (hk : p.app.kind = 168) : p.app.chk = 0 := by
  rcases (pr_ok.1 h).2.2 with h | h
  · rw [h] at hk; exact absurd hk (by decide)
  · exact h.2
theorem get_bytes {v : V} (hw : v.Wf) (h : v.chk = 0) : getV (getP v.bytes) = v := by
  have e := getP_put hw h []; rw [List.append_nil] at e; rw [e]; rfl
theorem pgB_put (p : Pr) (hw : p.app.Wf) (h : p.chk = 0) : pgB (part (body2 p), false) = ((p.id, p.app), ([], false)) := by
  obtain ⟨a1, a2, a3, a4, e, -⟩ := part_cons (stx p.id ++ (if p.app.kind = 168 then p.app.bytes else [])) 4 3 0 (UInt8.ofNat (fl2 p)) []; have h8 := fl2_lt p; unfold pgB body2; rw [List.append_assoc, ← List.append_nil (part _), e, List.append_nil, tkR_n 6 [a1, a2, a3, a4, 4, 3] _ rfl, ← be_two (show fl2 p < 256 by omega), nmR_be 2 _ (by omega)]; dsimp only; rw [tkTx_put p.id (pr_ok.1 h).2.1 _ _ (fl2_i p)]; dsimp only; by_cases hk : p.app.kind = 168
  · rw [if_pos ((fl2_a p).2 hk), if_pos hk]; have e2 := tkR_app p.app.bytes []; rw [List.append_nil] at e2; rw [e2]; dsimp only; rw [get_bytes hw (ok_map h hk)]
  · rw [if_neg (fun e => hk ((fl2_a p).1 e)), if_neg hk, ok_app h hk]
theorem dgB_put (p : Pr) (hw : p.app.Wf) (h : p.chk = 0) : dgB (part (body2 p), false) = (p.id, p.app) := by
  obtain ⟨a1, a2, a3, a4, -, e⟩ := part_cons (stx p.id ++ (if p.app.kind = 168 then p.app.bytes else [])) 4 3 0 (UInt8.ofNat (fl2 p)) []; have h8 := fl2_lt p; unfold dgB body2; rw [List.append_assoc, ← List.append_nil (part _), e, List.append_nil, tkR_n 7 [a1, a2, a3, a4, 4, 3, 0] _ rfl, ← be_one (show fl2 p < 256 by omega), nmR_be 1 _ (by omega)]; dsimp only; rw [tkTx_put p.id (pr_ok.1 h).2.1 _ _ (fl2_i p)]; dsimp only; by_cases hk : p.app.kind = 168
  · rw [if_pos ((fl2_a p).2 hk), if_pos hk, get_bytes hw (ok_map h hk)]
  · rw [if_neg (fun e => hk ((fl2_a p).1 e)), ok_app h hk]
theorem part_pos (b : List UInt8) : 0 < (part b).length := by unfold part; rw [List.length_append, be_len]; omega
theorem pgP_put (p : Pr) (hw : p.app.Wf) (h : p.chk = 0) : pgP p.bytes = (p, ([], false)) := by
  unfold pgP Pr.bytes; rw [pgA_put p (pr_ok.1 h).1]; dsimp only; by_cases hz : fl2 p = 0
  · rw [if_pos hz]; rw [if_neg (by simp)]; obtain ⟨h1, h2⟩ := (fl2_z p).1 hz; have h3 := ok_app h h2; have h4 := size0 h1; obtain ⟨a, b, c, d, e⟩ := p; simp only at h3 h4; rw [h3, h4]; rfl
  · rw [if_neg hz, if_pos (part_pos _), pgB_put p hw h]
theorem pgD_put (p : Pr) (hw : p.app.Wf) (h : p.chk = 0) : pgD p.bytes = p := by
  unfold pgD Pr.bytes; rw [dgA_put p (pr_ok.1 h).1]; dsimp only; by_cases hz : fl2 p = 0
  · rw [if_pos hz]; rw [if_neg (by simp)]; obtain ⟨h1, h2⟩ := (fl2_z p).1 hz; have h3 := ok_app h h2; have h4 := size0 h1; obtain ⟨a, b, c, d, e⟩ := p; simp only at h3 h4; rw [h3, h4]; rfl
  · rw [if_neg hz, if_pos (part_pos _), dgB_put p hw h]
theorem pr_inj {p q : Pr} (hp : p.app.Wf) (hq : q.app.Wf) (cp : p.chk = 0) (cq : q.chk = 0) (h : p.bytes = q.bytes) : p = q := by
  have e1 := pgD_put p hp cp; have e2 := pgD_put q hq cq; rw [← e1, ← e2, h]
/-- What Get tells of a text. -/
def PrGot (b : List UInt8) (o : Option Pr) : Prop := match o with | some p => p.app.Wf ∧ p.chk = 0 ∧ p.bytes = b | none => ∀ p : Pr, p.app.Wf → p.chk = 0 → p.bytes ≠ b
theorem prGot_one {b : List UInt8} {o o' : Option Pr} (h : PrGot b o) (h' : PrGot b o') : o = o' := by
  cases o with
  | none => cases o' with
    | none => rfl
    | some q => exact absurd h'.2.2 (h q h'.1 h'.2.1)
  | some p => cases o' with
    | none => exact absurd h.2.2 (h' p h.1 h.2.1)
    | some q => rw [pr_inj h.1 h'.1 h.2.1 h'.2.1 (h.2.2.trans h'.2.2.symm)]
theorem prGot_put {p : Pr} (hw : p.app.Wf) (h : p.chk = 0) {o : Option Pr} (ho : PrGot p.bytes o) : o = some p := prGot_one ho (show PrGot p.bytes (some p) from ⟨hw, h, rfl⟩)
theorem prGot_D {b : List UInt8} (hw : (pgD b).app.Wf) : PrGot b (if (pgD b).chk = 0 ∧ (pgD b).bytes = b then some (pgD b) else none) := by
  split
  · rename_i h; exact ⟨hw, h.1, h.2⟩
  · rename_i h; intro p hp cp e; have e1 := pgD_put p hp cp; rw [e] at e1; rw [e1] at h; exact h ⟨cp, e⟩
theorem prGot_P {b : List UInt8} (hw : (pgP b).1.app.Wf) : PrGot b (if (pgP b).2.2 = false ∧ (pgP b).1.chk = 0 ∧ (pgP b).1.bytes = b then some (pgP b).1 else none) := by
  split
  · rename_i h; exact ⟨hw, h.2.1, h.2.2⟩
  · rename_i h; intro p hp cp e; have e1 := pgP_put p hp cp; rw [e] at e1; rw [e1] at h; exact h ⟨rfl, cp, e⟩
theorem getV_wf (b : List UInt8) : (getV (getP b)).Wf := by
  rcases h : getP b with _ | ⟨x, n⟩
  · exact .mk (by omega) (by omega) (by omega) (by omega) (fun t ht => absurd ht (by simp))
  · exact (getP_inv h).2.1
theorem zero_wf : V.zero.Wf := .mk (by omega) (by omega) (by omega) (by omega) (fun t ht => absurd ht (by simp))
theorem pgD_wf (b : List UInt8) : (pgD b).app.Wf := by
  unfold pgD; dsimp only; split
  · unfold dgB; dsimp only; split
    · exact getV_wf _
    · exact zero_wf
  · exact zero_wf
theorem pgP_wf (b : List UInt8) : (pgP b).1.app.Wf := by
  unfold pgP; dsimp only; split
  · unfold pgB; dsimp only; split
    · exact getV_wf _
    · exact zero_wf
  · exact zero_wf
theorem stx_len (s : ByteArray) : (stx s).length ≤ s.size + 1 := by unfold stx; split; simp; simp [ba_len]
end Go.Proofs.YtlonokcaddpniaaGreatDoor
namespace Go.Proofs.YtlonokcaddpniaaGreatDoor
open Go.RowKit
/-- Properties, with the headers of their value's slices. -/
structure PT where
  key : ByteArray
  dur : Bool
  red : Bool
  mid : ByteArray
  app : VT
def PT.p (t : PT) : Pr := ⟨t.key, t.dur, t.red, t.mid, t.app.v⟩
def PT.arg (t : PT) : Value := .agg #[.string t.key, .bool t.dur, .bool t.red, .string t.mid, .int .u8 t.app.k, .int .u64 t.app.n, .string t.app.s, t.app.kv, t.app.lv]
theorem PT.arg_mk (key mid : ByteArray) (dur red : Bool) (k n : Int) (s : ByteArray) (kv lv : Value) (ks : List ByteArray) (l : List VT) : (PT.mk key dur red mid (VT.mk k n s kv lv ks l)).arg = .agg #[.string key, .bool dur, .bool red, .string mid, .int .u8 k, .int .u64 n, .string s, kv, lv] := rfl
theorem zero_info : (Tryz.prog.info? 33).map (fun i => (i.zero, i.size)) = some (some (.agg #[.string ⟨#[]⟩, .bool false, .bool false, .string ⟨#[]⟩, .int .u8 0, .int .u64 0, .string ⟨#[]⟩, .slice none 0 0, .slice none 0 0]), 9) := by kernel_rfl
theorem VT.zero_vz : VT.zero.v = V.zero := VT.zero_v
theorem ba_app (l m : List UInt8) : (⟨l.toArray⟩ : ByteArray) ++ ⟨m.toArray⟩ = ⟨(l ++ m).toArray⟩ := by
  apply toList_inj; simp [ByteArray.toList_eq]
theorem vkind {k n : Int} {s : ByteArray} {kv lv : Value} {ks : List ByteArray} {l : List VT} : (VT.mk k n s kv lv ks l).v.kind = k := by rw [VT.v_eq]; rfl
set_option maxRecDepth 100000 in
set_option maxHeartbeats 6400000 in
theorem d9check_any (t : PT) (P : Nat → Prop) (w : World) (hR : Rd P w t.app) : Calls Tryz.prog 101 #[t.arg] w fun e w' => e = .returned (.int .i64 t.p.chk) ∧ Below w.heap.size w w' := by
  obtain ⟨key, dur, red, mid, tv⟩ := t; have hR : Rd _ _ tv := hR; obtain ⟨tk, tn, ts, tka, tkc, tla, tlc, tks, tl, rfl, -⟩ := hR.open; rw [PT.arg_mk]; have hB1 := (Below.refl w.heap.size w).alloc (Nat.le_refl _) (.cells #[.string key, .bool dur, .bool red, .string mid, .int .u8 tk, .int .u64 tn, .string ts, .slice tka tks.length tkc, .slice tla tl.length tlc] 33); have A1 := Blk.new w [.string key, .bool dur, .bool red, .string mid, .int .u8 tk, .int .u64 tn, .string ts, .slice tka tks.length tkc, .slice tla tl.length tlc] 33; have R1 := hR.pure hB1; obtain ⟨cx, hcx⟩ : ∃ cx, (VT.mk tk tn ts (.slice tka tks.length tkc) (.slice tla tl.length tlc) tks tl).v.chk = cx := ⟨_, rfl⟩
  have hcxh := Lib.hid hcx; have hchk := Lib.hid (show (PT.mk key dur red mid (VT.mk tk tn ts (.slice tka tks.length tkc) (.slice tla tl.length tlc) tks tl)).p.chk = if key.size ≤ 255 ∧ mid.size ≤ 255 ∧ ((VT.mk tk tn ts (.slice tka tks.length tkc) (.slice tla tl.length tlc) tks tl).v = V.zero ∨ tk = 168 ∧ cx = 0) then 0 else 90 by rw [← hcx, ← (vkind : (VT.mk tk tn ts (.slice tka tks.length tkc) (.slice tla tl.length tlc) tks tl).v.kind = tk)]; rfl); clear hcx; have a0 := A1.at 0 rfl; have a1 := A1.at 1 rfl; have a2 := A1.at 2 rfl; have a3 := A1.at 3 rfl; have a4 := A1.at 4 rfl; have a5 := A1.at 5 rfl; have a6 := A1.at 6 rfl; have a7 := A1.at 7 rfl; have a8 := A1.at 8 rfl; go_enter Tryz.func101, Tryz.ntmps101; by_cases h1 : 255 < key.size
  · have h1d : decide ((255 : Int) < (key.size : Int)) = true := decide_eq_true (by omega); have hf := Lib.hid (show (PT.mk key dur red mid (VT.mk tk tn ts (.slice tka tks.length tkc) (.slice tla tl.length tlc) tks tl)).p.chk = 90 by rw [hchk.out]; exact if_neg (fun e => by omega)); clear h1; go_wp2; go_ret; exact ⟨by rw [hf.out]; rfl, hB1⟩
  have h1d : decide ((255 : Int) < (key.size : Int)) = false := decide_eq_false (by omega); have h1h := Lib.hid (show key.size ≤ 255 by omega); clear h1; by_cases h1 : 255 < mid.size
  · have h2d : decide ((255 : Int) < (mid.size : Int)) = true := decide_eq_true (by omega); have hf := Lib.hid (show (PT.mk key dur red mid (VT.mk tk tn ts (.slice tka tks.length tkc) (.slice tla tl.length tlc) tks tl)).p.chk = 90 by rw [hchk.out]; exact if_neg (fun e => by omega)); clear h1; go_wp2; go_ret; exact ⟨by rw [hf.out]; rfl, hB1⟩
  have h2d : decide ((255 : Int) < (mid.size : Int)) = false := decide_eq_false (by omega); have h2h := Lib.hid (show mid.size ≤ 255 by omega); clear h1; by_cases hk : tk = 168
  · subst hk
    have hnz : (VT.mk 168 tn ts (.slice tka tks.length tkc) (.slice tla tl.length tlc) tks tl).v ≠ VT.zero.v := fun e => by
      have := congrArg V.kind e; rw [vkind, VT.zero_v] at this; exact absurd this (by decide)
    have hnzh := Lib.hid hnz; clear hnz; by_cases hc : cx = 0
    · subst hc; have hf := Lib.hid (show (PT.mk key dur red mid (VT.mk 168 tn ts (.slice tka tks.length tkc) (.slice tla tl.length tlc) tks tl)).p.chk = 0 by rw [hchk.out]; exact if_pos ⟨h1h.out, h2h.out, .inr ⟨rfl, rfl⟩⟩); go_wp2_with (go_at_call 132; refine (dcheck_any (VT.mk 168 tn ts (.slice tka tks.length tkc) (.slice tla tl.length tlc) tks tl) _ _ R1).mono ?_; rintro e w2 ⟨rfl, hB2⟩; rw [hcxh.out]; have A2 := A1.pure hB2; have R2 := R1.pure hB2; have hB12 := hB1.trans (hB2.mono hB1.size); have b0 := A2.at 0 rfl; have b1 := A2.at 1 rfl; have b2 := A2.at 2 rfl; have b3 := A2.at 3 rfl; have b4 := A2.at 4 rfl; have b5 := A2.at 5 rfl; have b6 := A2.at 6 rfl; have b7 := A2.at 7 rfl; have b8 := A2.at 8 rfl); go_ret; exact ⟨by rw [hf.out]; rfl, hB12⟩
    · have h3 : (cx == 0) = false := beq_eq_false_iff_ne.2 hc; have hf := Lib.hid (show (PT.mk key dur red mid (VT.mk 168 tn ts (.slice tka tks.length tkc) (.slice tla tl.length tlc) tks tl)).p.chk = 90 by rw [hchk.out]; exact if_neg (fun e => by rcases e.2.2 with e | e; exact hnzh.out (e.trans VT.zero_vz.symm); exact hc e.2)); clear hc; go_wp2_with (first | (go_at_call 132; refine (dcheck_any (VT.mk 168 tn ts (.slice tka tks.length tkc) (.slice tla tl.length tlc) tks tl) _ _ R1).mono ?_; rintro e w2 ⟨rfl, hB2⟩; rw [hcxh.out]; have A2 := A1.pure hB2; have R2 := R1.pure hB2; have hB12 := hB1.trans (hB2.mono hB1.size); have b0 := A2.at 0 rfl; have b1 := A2.at 1 rfl; have b2 := A2.at 2 rfl; have b3 := A2.at 3 rfl; have b4 := A2.at 4 rfl; have b5 := A2.at 5 rfl; have b6 := A2.at 6 rfl; have b7 := A2.at 7 rfl; have b8 := A2.at 8 rfl) | (go_at_call 106; refine (dsame_no (u := VT.zero) (P2 := fun _ => True) R2 VT.zero_rd hnzh.out).mono ?_; rintro e w3 ⟨rfl, hB3⟩; have hBz := hB12.trans (hB3.mono hB12.size))); go_ret; exact ⟨by rw [hf.out]; rfl, hBz⟩
  · have h3 : decide (tk = 168) = false := decide_eq_false hk; have h4 : (tk == 168) = false := beq_eq_false_iff_ne.2 hk; by_cases hz : (VT.mk tk tn ts (.slice tka tks.length tkc) (.slice tla tl.length tlc) tks tl).v = V.zero
    · have hzh := Lib.hid (hz.trans VT.zero_vz.symm); have hf := Lib.hid (show (PT.mk key dur red mid (VT.mk tk tn ts (.slice tka tks.length tkc) (.slice tla tl.length tlc) tks tl)).p.chk = 0 by rw [hchk.out]; exact if_pos ⟨h1h.out, h2h.out, .inl hz⟩); clear hz; go_wp2_with (go_at_call 106; refine (dsame_yes (u := VT.zero) (P2 := fun _ => True) R1 VT.zero_rd hzh.out).mono ?_; rintro e w3 ⟨rfl, hB3⟩; have hBz := hB1.trans (hB3.mono hB1.size)); go_ret; exact ⟨by rw [hf.out]; rfl, hBz⟩
    · have hzh := Lib.hid (show ¬ (VT.mk tk tn ts (.slice tka tks.length tkc) (.slice tla tl.length tlc) tks tl).v = VT.zero.v from fun e => hz (e.trans VT.zero_vz)); have hf := Lib.hid (show (PT.mk key dur red mid (VT.mk tk tn ts (.slice tka tks.length tkc) (.slice tla tl.length tlc) tks tl)).p.chk = 90 by rw [hchk.out]; exact if_neg (fun e => by rcases e.2.2 with e | e; exact hz e; exact hk e.1)); clear hz; go_wp2_with (go_at_call 106; refine (dsame_no (u := VT.zero) (P2 := fun _ => True) R1 VT.zero_rd hzh.out).mono ?_; rintro e w3 ⟨rfl, hB3⟩; have hBz := hB1.trans (hB3.mono hB1.size)); go_ret; exact ⟨by rw [hf.out]; rfl, hBz⟩
set_option maxRecDepth 100000 in
set_option maxHeartbeats 1600000 in
theorem d9text_any (B : Nat) (w : World) (bv : Value) (L : List UInt8) (s : ByteArray) (hO : Own B 5 1 byEnc w bv L) (hB : B ≤ w.heap.size) (hs : s.size ≤ 255) (hL : Big (L.length + 300)) :
    Calls Tryz.prog 103 #[bv, .string s] w fun e w' => ∃ r, e = .returned r ∧ Own B 5 1 byEnc w' r (L ++ stx s) ∧ Below B w w' := by
  obtain ⟨ba, bc, rfl⟩ := own_lenB hO; have hLh := Lib.hid hL.le; go_enter Tryz.func103, Tryz.ntmps103; by_cases h0 : s.size = 0
  · have hst := Lib.hid (show L ++ stx s = L by unfold stx; rw [if_pos h0, List.append_nil]); obtain rfl := size0 h0; clear h0; go_wp2; go_ret; exact ⟨_, rfl, by rw [hst.out]; exact hO, Below.refl _ _⟩
  · have h1 : ¬ s.toList = [] := fun e => h0 (by rw [← toList_len, e]; rfl)
    have h2 := empty_no (show 0 < s.size by omega); have hst := Lib.hid (show L ++ stx s = (L ++ [UInt8.ofNat s.size]) ++ s.data.toList by unfold stx; rw [if_neg h0]; simp); have hsh := Lib.hid hs
    have hkw : IntKind.u8.wrap (s.size : Int) = (s.size : Int) := by
      have e : IntKind.u8.wrap (s.size : Int) = (s.size : Int) % 256 := rfl; rw [e]; omega
    have hk8 : (s.size : Int) ≤ 255 := by omega
    have hkb : (s.size : Int) = ((UInt8.ofNat s.size).toNat : Int) := by rw [UInt8.toNat_ofNat']; omega
    have hBx := (Below.refl B w).alloc hB (.cells #[.int .u8 (s.size : Int)] 5); have hOx := hO.alloc (.cells #[.int .u8 (s.size : Int)] 5); have hsx := (Own.byte1 w (UInt8.ofNat s.size) (s.size : Int) hkb (Nat.le_refl _)).slc byEnc_len; have hzx : B ≤ (w.alloc (.cells #[.int .u8 (s.size : Int)] 5)).heap.size := by simp; omega
    clear h0 hkb hs; go_wp2_with (first | (at_builtin; refine wpList_app (base := B) rfl (.tmp 8) (.tmp 12) 114 5 rfl elem_by byEnc_len byEnc_one _ L rfl hOx _ [UInt8.ofNat s.size] rfl hsx (by have := hLh.out; simp only [List.length_cons, List.length_nil]; unfold maxLen; omega) (by have := hLh.out; simp only [List.length_cons, List.length_nil]; omega) hzx ?_; intro v5 w5 hO5 hgr5 hfr5 hsh5; have hB5 := hBx.grown hgr5 hzx (fun j e => hOx.ge e); have hz5 := Nat.le_trans hB hB5.size) | (at_builtin; refine wpList_appS (base := B) rfl (.tmp 14) (.tmp 15) rfl v5 _ rfl hO5 s rfl (by have := hLh.out; have := hsh.out; simp only [List.length_append, List.length_cons, List.length_nil]; omega) hz5 ?_; intro v6 w6 hO6 hgr6; have hB6 := hB5.grown hgr6 hz5 (fun j e => hO5.ge e))); go_ret; exact ⟨_, rfl, by rw [hst.out]; exact hO6, hB6⟩
theorem d9flag_any (w : World) (is : Bool) (n : Int) : Calls Tryz.prog 104 #[.bool is, .int .u8 n] w fun e w' => e = .returned (.int .u8 (if is then n else 0)) ∧ w = w' := by
  go_enter Tryz.func104, Tryz.ntmps104; cases is
  · go_wp2; go_ret; exact ⟨rfl, rfl⟩
  · go_wp2; go_ret; exact ⟨rfl, rfl⟩
set_option maxRecDepth 100000 in
set_option maxHeartbeats 1600000 in
theorem d9part_any (w : World) (bv : Value) (L : List UInt8) (hS : Slc byEnc 1 w bv L) (hL : L.length ≤ 2000000) :
    Calls Tryz.prog 102 #[bv] w fun e w' => e = .returned (.string ⟨(part L).toArray⟩) ∧ Below w.heap.size w w' := by
  obtain ⟨ba, bc, rfl, -⟩ := hS.len; have hLh := Lib.hid hL; have hw64 : IntKind.u64.wrap (L.length : Int) = (L.length : Int) := wrap_u64 _ (by omega) (by omega); have hl0 := Lib.hid (show (0 : Int) ≤ (L.length : Int) by omega); have hl1 := Lib.hid (show (L.length : Int) < 18446744073709551616 by omega); clear hL; go_enter Tryz.func102, Tryz.ntmps102; go_wp2_with (first | (go_at_call 133; refine (dnumber_any _ (L.length : Int) 4 hl0.out hl1 (by unfold Wd; omega)).mono ?_; rintro e w3 ⟨r3, rfl, hN3, hB3⟩; rw [Int.toNat_natCast] at hN3; have hS3 := hS.pure hB3) | (at_builtin; refine wpList_app (base := w.heap.size) rfl (.tmp 6) (.tmp 7) 114 5 rfl elem_by byEnc_len byEnc_one _ _ rfl hN3 _ L rfl hS3 (by have := hLh.out; simp only [be_len]; unfold maxLen; omega) (by have := hLh.out; simp only [be_len]; omega) hB3.size ?_; intro v4 w4 hO4 hgr4 hfr4 hsh4; have hB4 := hB3.grown hgr4 hB3.size (fun j e => hN3.ge e); have hcv := conv_str w4 _ _ (hO4.slc byEnc_len))); go_ret; exact ⟨rfl, hB4⟩
theorem part_len (b : List UInt8) : (part b).length = 4 + b.length := by unfold part; rw [List.length_append, be_len]
/-- A Bool that, if it is true, says Q. -/
def Tells (B : Nat) (w : World) (Q : Prop) (e : Ending) (w' : World) : Prop := (∃ b : Bool, e = .returned (.bool b) ∧ (b = true → Q)) ∧ Below B w w'
theorem tells_no {B : Nat} {w w' : World} {Q : Prop} (hB : Below B w w') : Tells B w Q (.returned (.bool false)) w' := ⟨⟨false, rfl, fun e => absurd e (by simp)⟩, hB⟩
theorem tells_if {B : Nat} {w w' : World} {Q : Prop} {b : Bool} (h : b = true → Q) (hB : Below B w w') : Tells B w Q (.returned (.bool b)) w' := ⟨⟨b, rfl, h⟩, hB⟩
set_option maxRecDepth 100000 in
set_option maxHeartbeats 6400000 in
theorem d9small_any (t : PT) (P : Nat → Prop) (w : World) (hR : Rd P w t.app) : Calls Tryz.prog 33 #[t.arg] w (Tells w.heap.size w (t.key.size ≤ 1000 ∧ t.mid.size ≤ 1000 ∧ V.Fit t.app.v)) := by
  obtain ⟨key, dur, red, mid, tv⟩ := t; have hR : Rd _ _ tv := hR; obtain ⟨tk, tn, ts, tka, tkc, tla, tlc, tks, tl, rfl, -⟩ := hR.open; rw [PT.arg_mk]; have hB1 := (Below.refl w.heap.size w).alloc (Nat.le_refl _) (.cells #[.string key, .bool dur, .bool red, .string mid, .int .u8 tk, .int .u64 tn, .string ts, .slice tka tks.length tkc, .slice tla tl.length tlc] 33); have A1 := Blk.new w [.string key, .bool dur, .bool red, .string mid, .int .u8 tk, .int .u64 tn, .string ts, .slice tka tks.length tkc, .slice tla tl.length tlc] 33; have R1 := hR.pure hB1; have a0 := A1.at 0 rfl; have a1 := A1.at 1 rfl; have a2 := A1.at 2 rfl; have a3 := A1.at 3 rfl; have a4 := A1.at 4 rfl; have a5 := A1.at 5 rfl; have a6 := A1.at 6 rfl; have a7 := A1.at 7 rfl; have a8 := A1.at 8 rfl; have s1 := dSmall_any _ _ _ R1; rw [VT.arg_mk] at s1; have s1h := Lib.hid s1; clear s1; go_enter Tryz.func33, Tryz.ntmps33; by_cases h1 : key.size ≤ 1000
  rotate_left 1
  · have h1d : decide ((key.size : Int) ≤ 1000) = false := decide_eq_false (by omega); clear h1; go_wp2; go_ret; exact tells_no hB1
  have h1d : decide ((key.size : Int) ≤ 1000) = true := decide_eq_true (by omega); have h1h := Lib.hid h1; clear h1; by_cases h1 : mid.size ≤ 1000
  rotate_left 1
  · have h2d : decide ((mid.size : Int) ≤ 1000) = false := decide_eq_false (by omega); clear h1; go_wp2; go_ret; exact tells_no hB1
  have h2d : decide ((mid.size : Int) ≤ 1000) = true := decide_eq_true (by omega); have h2h := Lib.hid h1; clear h1; go_wp2_with (go_at_call 54; refine (s1h.out).mono ?_; rintro e w2 ⟨⟨sb, rfl, hsm⟩, hB2⟩; have hsmh := Lib.hid hsm; clear hsm; have hB12 := hB1.trans (hB2.mono hB1.size)); go_ret; exact tells_if (fun h => ⟨h1h.out, h2h.out, fit_small (hsmh.out h)⟩) hB12
/-- Nine cells stored. -/
def set9 (w : World) (B : Nat) (v0 v1 v2 v3 v4 v5 v6 v7 v8 : Value) : World := ((((((((w.setCell ⟨B, 0, none⟩ v0).setCell ⟨B, 1, none⟩ v1).setCell ⟨B, 2, none⟩ v2).setCell ⟨B, 3, none⟩ v3).setCell ⟨B, 4, none⟩ v4).setCell ⟨B, 5, none⟩ v5).setCell ⟨B, 6, none⟩ v6).setCell ⟨B, 7, none⟩ v7).setCell ⟨B, 8, none⟩ v8
theorem upd_set (w : World) (B i : Nat) (v : Value) {S : Nat → Prop} {w0 : World} (h : Upd S w0 w) (hS : S B) : Upd S w0 (w.setCell ⟨B, i, none⟩ v) := h.trans (Upd.set (S := fun k => k = B) rfl v) (fun k e _ => by subst e; exact hS)
theorem Upd.at9 (w : World) (B : Nat) (v0 v1 v2 v3 v4 v5 v6 v7 v8 : Value) : Upd (fun k => k = B) w (set9 w B v0 v1 v2 v3 v4 v5 v6 v7 v8) :=
  upd_set _ B _ _ (upd_set _ B _ _ (upd_set _ B _ _ (upd_set _ B _ _ (upd_set _ B _ _ (upd_set _ B _ _ (upd_set _ B _ _ (upd_set _ B _ _ (upd_set _ B _ _ (Upd.refl _ w) rfl) rfl) rfl) rfl) rfl) rfl) rfl) rfl) rfl
theorem Blk.fresh9 {w : World} {B : Nat} {c0 c1 c2 c3 c4 c5 c6 c7 c8 : Value} (h : Blk w B [c0, c1, c2, c3, c4, c5, c6, c7, c8]) (v0 v1 v2 v3 v4 v5 v6 v7 v8 : Value) : Blk (set9 w B v0 v1 v2 v3 v4 v5 v6 v7 v8) B [v0, v1, v2, v3, v4, v5, v6, v7, v8] :=
  ((((((((h.set 0 v0).set 1 v1).set 2 v2).set 3 v3).set 4 v4).set 5 v5).set 6 v6).set 7 v7).set 8 v8
/-- The value in properties that lie in memory is stored. -/
def setApp (w : World) (B : Nat) (v4 v5 v6 v7 v8 : Value) : World := ((((w.setCell ⟨B, 4, none⟩ v4).setCell ⟨B, 5, none⟩ v5).setCell ⟨B, 6, none⟩ v6).setCell ⟨B, 7, none⟩ v7).setCell ⟨B, 8, none⟩ v8
theorem Upd.app9 (w : World) (B : Nat) (v4 v5 v6 v7 v8 : Value) : Upd (fun k => k = B) w (setApp w B v4 v5 v6 v7 v8) :=
  upd_set _ B _ _ (upd_set _ B _ _ (upd_set _ B _ _ (upd_set _ B _ _ (upd_set _ B _ _ (Upd.refl _ w) rfl) rfl) rfl) rfl) rfl
theorem Blk.app9 {w : World} {B : Nat} {c0 c1 c2 c3 c4 c5 c6 c7 c8 : Value} (h : Blk w B [c0, c1, c2, c3, c4, c5, c6, c7, c8]) (v4 v5 v6 v7 v8 : Value) : Blk (setApp w B v4 v5 v6 v7 v8) B [c0, c1, c2, c3, v4, v5, v6, v7, v8] :=
  ((((h.set 4 v4).set 5 v5).set 6 v6).set 7 v7).set 8 v8
end Go.Proofs.YtlonokcaddpniaaGreatDoor
