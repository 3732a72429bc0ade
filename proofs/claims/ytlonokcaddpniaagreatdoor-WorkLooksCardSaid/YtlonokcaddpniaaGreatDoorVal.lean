/- Chapter 05, plain: values as trees, how they are counted, which may be, their bytes, how they are read. Conditions: none. -/
set_option linter.unusedSimpArgs false
set_option linter.unusedVariables false
namespace Go.Proofs.YtlonokcaddpniaaGreatDoor
/-- A value: its kind, number, text, keys, values. -/
inductive V where
  | mk (k n : Int) (s : ByteArray) (ks : List ByteArray) (l : List V)
def V.kind : V → Int | .mk k _ _ _ _ => k
def V.num : V → Int | .mk _ n _ _ _ => n
def V.str : V → ByteArray | .mk _ _ s _ _ => s
def V.keys : V → List ByteArray | .mk _ _ _ ks _ => ks
def V.list : V → List V | .mk _ _ _ _ l => l
theorem V.ind {P : V → Prop} (h : ∀ k n s ks l, (∀ t ∈ l, P t) → P (.mk k n s ks l)) : ∀ t, P t
  | .mk k n s ks l => h k n s ks l (fun t _ => V.ind h t)
mutual
/-- How many values are left of so many. -/
def V.cnt : V → Int → Int
  | .mk _ _ _ _ l, n => V.cntL l (n - 1)
def V.cntL : List V → Int → Int
  | [], n => n
  | x :: xs, n => if n < 0 then n else V.cntL xs (V.cnt x n)
end
/-- Does it lie in so many others, or more? -/
def V.deep : Nat → V → Bool
  | 0, _ => true
  | d + 1, .mk _ _ _ _ l => l.any (V.deep d)
/-- Is the byte at k between two? -/
def ctB (r : List UInt8) (k lo hi : Nat) : Bool := match r[k]? with | some d => decide (lo ≤ d.toNat) && decide (d.toNat ≤ hi) | none => false
/-- The first character's length; 0: it is none. -/
def u8n (l : List UInt8) : Nat :=
  match l with
  | [] => 0
  | b0 :: r =>
    if b0.toNat < 128 then 1
    else if 194 ≤ b0.toNat ∧ b0.toNat ≤ 223 then (if ctB r 0 128 191 then 2 else 0)
    else if 224 ≤ b0.toNat ∧ b0.toNat ≤ 239 then (if ctB r 0 (if b0.toNat = 224 then 160 else 128) (if b0.toNat = 237 then 159 else 191) && ctB r 1 128 191 then 3 else 0)
    else if 240 ≤ b0.toNat ∧ b0.toNat ≤ 244 then (if ctB r 0 (if b0.toNat = 240 then 144 else 128) (if b0.toNat = 244 then 143 else 191) && ctB r 1 128 191 && ctB r 2 128 191 then 4 else 0)
    else 0
/-- Is it UTF-8? -/
def u8F : Nat → List UInt8 → Bool
  | _, [] => true
  | 0, _ :: _ => false
  | f + 1, b :: r => if u8n (b :: r) = 0 then false else u8F f ((b :: r).drop (u8n (b :: r)))
def u8 (l : List UInt8) : Bool := u8F l.length l
def u8s (s : ByteArray) : Bool := u8 s.data.toList
theorem u8n_pos {b : UInt8} {r : List UInt8} (h : u8n (b :: r) ≠ 0) : 1 ≤ u8n (b :: r) := by omega
theorem u8F_more : ∀ (f g : Nat) (l : List UInt8), l.length ≤ f → l.length ≤ g → u8F f l = u8F g l
  | f, g, [], _, _ => by cases f <;> cases g <;> rfl
  | 0, _, b :: r, h, _ => by simp at h
  | f + 1, 0, b :: r, _, h => by simp at h
  | f + 1, g + 1, b :: r, h, k => by
    unfold u8F; split
    · rfl
    · rename_i hn; refine u8F_more f g _ ?_ ?_ <;> · have := u8n_pos hn; simp only [List.length_drop, List.length_cons] at *; omega
theorem u8_no {b : UInt8} {r : List UInt8} (h : u8n (b :: r) = 0) : u8 (b :: r) = false := by
  unfold u8; rw [List.length_cons]; unfold u8F; rw [if_pos h]
theorem u8_yes {b : UInt8} {r : List UInt8} (h : u8n (b :: r) ≠ 0) : u8 (b :: r) = u8 ((b :: r).drop (u8n (b :: r))) := by
  unfold u8; rw [List.length_cons]; conv => lhs; unfold u8F
  rw [if_neg h]; exact u8F_more _ _ _ (by have := u8n_pos h; simp only [List.length_drop, List.length_cons]; omega) (Nat.le_refl _)
/-- May keys be? -/
def keyOk (s : ByteArray) : Bool := decide (1 ≤ s.size) && decide (s.size ≤ 255) && u8s s
def keysOk : List ByteArray → Bool
  | [] => true
  | k :: ks => keyOk k && !(ks.any (fun x => x.toList == k.toList)) && keysOk ks
/-- May a value be, its values aside? -/
def headOk (k n : Int) (s : ByteArray) (ks : List ByteArray) (len : Nat) : Bool :=
  (k == 168 || ks.isEmpty) && (k == 168 || k == 169 || len == 0) &&
  (if k = 240 then n == 0 && s.size == 0
   else if k = 8 then decide (n ≤ 1) && s.size == 0
   else if k = 2 then decide (n ≤ 255) && s.size == 0
   else if k = 49 ∨ k = 50 then s.size == 0
   else if k = 149 then n == 0 && decide (s.size ≤ 4096) && u8s s
   else if k = 160 then n == 0 && decide (s.size ≤ 4096)
   else if k = 168 then ks.length == len && keysOk ks && n == 0 && s.size == 0
   else if k = 169 then n == 0 && s.size == 0
   else false)
mutual
def V.may : V → Bool
  | .mk k n s ks l => headOk k n s ks l.length && V.mayL l
def V.mayL : List V → Bool
  | [] => true
  | x :: xs => V.may x && V.mayL xs
end
/-- Which error: 0 where it may be. -/
def V.chk (v : V) : Int := if v.deep 6 then 51 else if v.cnt 200 < 0 then 3 else if v.may then 0 else 50
/-- A number's bytes, the greatest first. -/
def be : Nat → Nat → List UInt8
  | 0, _ => []
  | w + 1, n => be w (n / 256) ++ [UInt8.ofNat (n % 256)]
def unbe (l : List UInt8) : Nat := l.foldl (fun n c => 256 * n + c.toNat) 0
theorem be_len : ∀ (w n : Nat), (be w n).length = w
  | 0, _ => rfl
  | w + 1, n => by unfold be; rw [List.length_append, be_len w]; rfl
theorem unbe_snoc (l : List UInt8) (c : UInt8) : unbe (l ++ [c]) = 256 * unbe l + c.toNat := by unfold unbe; rw [List.foldl_append]; rfl
theorem unbe_be : ∀ (w n : Nat), n < 256 ^ w → unbe (be w n) = n
  | 0, n, h => by have : n = 0 := by simpa using h
                  subst this; rfl
  | w + 1, n, h => by
    unfold be; have h2 : n / 256 < 256 ^ w := by rw [Nat.pow_succ] at h; exact Nat.div_lt_of_lt_mul (by omega)
    rw [unbe_snoc, unbe_be w _ h2, UInt8.toNat_ofNat']; omega
theorem unbe_lt : ∀ (l : List UInt8), unbe l < 256 ^ l.length := by
  intro l
  induction h : l.length generalizing l with
  | zero => have : l = [] := List.length_eq_zero_iff.1 h
            subst this; decide
  | succ n ih =>
    obtain ⟨q, c, rfl⟩ : ∃ q c, l = q ++ [c] := ⟨l.dropLast, l.getLast (fun e => by rw [e] at h; simp at h), (List.dropLast_concat_getLast _).symm⟩
    have hq : q.length = n := by simpa using h
    have := ih q hq; rw [unbe_snoc, Nat.pow_succ]; have hc : c.toNat < 256 := c.toNat_lt; omega
theorem be_unbe : ∀ (w : Nat) (l : List UInt8), l.length = w → be w (unbe l) = l
  | 0, l, h => by have : l = [] := List.length_eq_zero_iff.1 h
                  subst this; rfl
  | w + 1, l, h => by
    obtain ⟨q, c, rfl⟩ : ∃ q c, l = q ++ [c] := ⟨l.dropLast, l.getLast (fun e => by rw [e] at h; simp at h), (List.dropLast_concat_getLast _).symm⟩
    have hq : q.length = w := by simpa using h
    have hc : c.toNat < 256 := c.toNat_lt; unfold be; rw [unbe_snoc, show (256 * unbe q + c.toNat) / 256 = unbe q by omega, show (256 * unbe q + c.toNat) % 256 = c.toNat by omega, be_unbe w q hq]; simp
mutual
/-- A value's bytes. -/
def V.bytes : V → List UInt8
  | .mk k n s ks l => UInt8.ofNat k.toNat ::
    (if k = 8 ∨ k = 2 then be 1 n.toNat
     else if k = 49 ∨ k = 50 then be 8 n.toNat
     else if k = 149 then be 2 s.size ++ s.data.toList
     else if k = 160 then be 4 s.size ++ s.data.toList
     else if k = 240 then []
     else be 4 (4 + (V.bytesL (k == 168) ks l).length) ++ (be 4 l.length ++ V.bytesL (k == 168) ks l))
def V.bytesL (m : Bool) : List ByteArray → List V → List UInt8
  | _, [] => []
  | ks, x :: xs => (if m then be 1 (ks.headD ByteArray.empty).size ++ (ks.headD ByteArray.empty).data.toList else []) ++ (V.bytes x ++ V.bytesL m ks.tail xs)
end
/-! ### reading -/
/-- A number of w bytes, and what is behind. -/
def gN (w : Nat) (b : List UInt8) : Option (Nat × List UInt8) := if w ≤ b.length then some (unbe (b.take w), b.drop w) else none
/-- A text, its length in w bytes. -/
def gT (w most : Nat) (b : List UInt8) : Option (ByteArray × List UInt8) :=
  (gN w b).bind fun (n, r) => if n ≤ most ∧ n ≤ r.length then some (⟨(r.take n).toArray⟩, r.drop n) else none
/-- n values (and keys). -/
def rdMany (f : Int → List UInt8 → Option (V × Int × List UInt8)) (m : Bool) : Nat → Int → List UInt8 → Option (List ByteArray × List V × Int × List UInt8)
  | 0, left, b => some ([], [], left, b)
  | n + 1, left, b =>
    (if m then gT 1 255 b else some (ByteArray.empty, b)).bind fun (key, b1) =>
    (f left b1).bind fun (x, left1, b2) =>
    (rdMany f m n left1 b2).bind fun (ks, l, left2, b3) => some (if m then key :: ks else ks, x :: l, left2, b3)
/-- How the program reads a value that may lie so deep. -/
def rdP : Nat → Int → List UInt8 → Option (V × Int × List UInt8)
  | 0, _, _ => none
  | d + 1, left, b =>
    (gN 1 b).bind fun (k, b1) =>
    if left - 1 < 0 then none else
    if k = 240 then some (.mk k 0 ByteArray.empty [] [], left - 1, b1)
    else if k = 8 ∨ k = 2 then (gN 1 b1).bind fun (n, b2) => some (.mk k n ByteArray.empty [] [], left - 1, b2)
    else if k = 49 ∨ k = 50 then (gN 8 b1).bind fun (n, b2) => some (.mk k n ByteArray.empty [] [], left - 1, b2)
    else if k = 149 then (gT 2 4096 b1).bind fun (s, b2) => some (.mk k 0 s [] [], left - 1, b2)
    else if k = 160 then (gT 4 4096 b1).bind fun (s, b2) => some (.mk k 0 s [] [], left - 1, b2)
    else if k = 168 ∨ k = 169 then
      (gN 4 b1).bind fun (size, b2) => (gN 4 b2).bind fun (n, b3) =>
      if size ≤ b2.length ∧ n < 200 then
        (rdMany (rdP d) (k == 168) n (left - 1) b3).bind fun (ks, l, left2, b4) => if b2.length - b4.length = size then some (.mk k 0 ByteArray.empty ks l, left2, b4) else none
      else none
    else none
/-- How the document reads a value. -/
def rdD : Nat → Int → List UInt8 → Option (V × Int × List UInt8)
  | 0, _, _ => none
  | d + 1, left, b =>
    (gN 1 b).bind fun (k, b1) =>
    if left - 1 < 0 then none else
    if k = 8 ∨ k = 2 then (gN 1 b1).bind fun (n, b2) => some (.mk k n ByteArray.empty [] [], left - 1, b2)
    else if k = 49 ∨ k = 50 then (gN 8 b1).bind fun (n, b2) => some (.mk k n ByteArray.empty [] [], left - 1, b2)
    else if k = 149 then (gT 2 4096 b1).bind fun (s, b2) => some (.mk k 0 s [] [], left - 1, b2)
    else if k = 160 then (gT 4 4096 b1).bind fun (s, b2) => some (.mk k 0 s [] [], left - 1, b2)
    else if k = 168 ∨ k = 169 then
      (gN 4 b1).bind fun (_, b2) => (gN 4 b2).bind fun (n, b3) =>
      (rdMany (rdD d) (k == 168) (min n 200) (left - 1) b3).bind fun (ks, l, left2, b4) => some (.mk k 0 ByteArray.empty ks l, left2, b4)
    else some (.mk k 0 ByteArray.empty [] [], left - 1, b1)
def getP (b : List UInt8) : Option (V × Nat) :=
  (rdP 6 200 b).bind fun (v, _, r) => if v.chk = 0 then some (v, b.length - r.length) else none
def getD (b : List UInt8) : Option (V × Nat) :=
  (rdD 6 200 b).bind fun (v, _, _) => if v.chk = 0 ∧ v.bytes <+: b then some (v, v.bytes.length) else none
/-! ### what is read is what was written -/
theorem gN_be (w n : Nat) (h : n < 256 ^ w) (r : List UInt8) : gN w (be w n ++ r) = some (n, r) := by
  unfold gN; rw [if_pos (by rw [List.length_append, be_len]; omega), List.take_left' (be_len w n), List.drop_left' (be_len w n), unbe_be w n h]
theorem ba_eta (s : ByteArray) : (⟨s.data.toList.toArray⟩ : ByteArray) = s := by rfl
theorem ba_len (s : ByteArray) : s.data.toList.length = s.size := rfl
theorem gT_put (w most : Nat) (s : ByteArray) (hw : s.size < 256 ^ w) (hm : s.size ≤ most) (r : List UInt8) : gT w most (be w s.size ++ (s.data.toList ++ r)) = some (s, r) := by
  unfold gT; rw [gN_be w _ hw, Option.bind_some]; show (if s.size ≤ most ∧ s.size ≤ (s.data.toList ++ r).length then _ else none) = _
  rw [if_pos ⟨hm, by rw [List.length_append, ba_len]; omega⟩, List.take_left' (ba_len s), List.drop_left' (ba_len s), ba_eta]
theorem gN_inv {w n : Nat} {b r : List UInt8} (h : gN w b = some (n, r)) : b = be w n ++ r ∧ n < 256 ^ w := by
  unfold gN at h; split at h
  · rename_i hl; simp only [Option.some.injEq, Prod.mk.injEq] at h; obtain ⟨rfl, rfl⟩ := h; have ht : (b.take w).length = w := by rw [List.length_take]; omega
    refine ⟨by rw [be_unbe w _ ht, List.take_append_drop], ?_⟩; have := unbe_lt (b.take w); rwa [ht] at this
  · simp at h
theorem gT_inv {w most : Nat} {b r : List UInt8} {s : ByteArray} (h : gT w most b = some (s, r)) : b = be w s.size ++ (s.data.toList ++ r) ∧ s.size ≤ most ∧ s.size < 256 ^ w := by
  unfold gT at h; rcases hg : gN w b with _ | ⟨n, b1⟩
  · rw [hg] at h; simp at h
  · rw [hg, Option.bind_some] at h; have hb := gN_inv hg; dsimp only at h; split at h
    · rename_i hc; simp only [Option.some.injEq, Prod.mk.injEq] at h; obtain ⟨rfl, rfl⟩ := h; have hs : (⟨(b1.take n).toArray⟩ : ByteArray).size = n := by simp [ByteArray.size]; omega
      refine ⟨?_, by rw [hs]; exact hc.1, by rw [hs]; exact hb.2⟩; rw [hs, List.take_append_drop]; exact hb.1
    · simp at h
theorem cnt_lt : ∀ (v : V) (n : Int), v.cnt n < n := by
  intro v
  induction v using V.ind with
  | h k n s ks l ih =>
    intro m; unfold V.cnt
    have hL : ∀ (l : List V), (∀ t ∈ l, ∀ n : Int, t.cnt n < n) → ∀ m : Int, V.cntL l m ≤ m := by
      intro l
      induction l with
      | nil => intro _ m; unfold V.cntL; omega
      | cons x xs ihx =>
        intro h m; unfold V.cntL; split
        · omega
        · have h1 := h x (List.mem_cons_self ..) m; have h2 := ihx (fun t ht => h t (List.mem_cons_of_mem _ ht)) (x.cnt m); omega
    have := hL l ih (m - 1); omega
theorem cntL_le : ∀ (l : List V) (m : Int), V.cntL l m ≤ m
  | [], m => by unfold V.cntL; omega
  | x :: xs, m => by
    unfold V.cntL; split
    · omega
    · have h1 := cnt_lt x m; have h2 := cntL_le xs (x.cnt m); omega
theorem cntL_neg (l : List V) {m : Int} (h : m < 0) : V.cntL l m = m := by cases l <;> unfold V.cntL <;> simp [h]
/-- What a value that may be asks of its parts. -/
theorem may_mk {k n : Int} {s : ByteArray} {ks : List ByteArray} {l : List V} (h : (V.mk k n s ks l).may = true) : headOk k n s ks l.length = true ∧ V.mayL l = true := by
  unfold V.may at h; simpa using h
theorem mayL_mem {l : List V} (h : V.mayL l = true) : ∀ t ∈ l, t.may = true := by
  induction l with
  | nil => intro t ht; simp at ht
  | cons x xs ih =>
    unfold V.mayL at h; simp only [Bool.and_eq_true] at h; intro t ht; rcases List.mem_cons.1 ht with rfl | ht
    · exact h.1
    · exact ih h.2 t ht
theorem keysOk_mem {ks : List ByteArray} (h : keysOk ks = true) : ∀ k ∈ ks, 1 ≤ k.size ∧ k.size ≤ 255 := by
  induction ks with
  | nil => intro k hk; simp at hk
  | cons x xs ih =>
    unfold keysOk at h; simp only [Bool.and_eq_true] at h; intro k hk; rcases List.mem_cons.1 hk with rfl | hk
    · have := h.1.1; unfold keyOk at this; simp only [Bool.and_eq_true, decide_eq_true_eq] at this; exact this.1
    · exact ih h.2 k hk
/-- The kinds of which a value may be, and what each asks. -/
theorem headOk_cases {k n : Int} {s : ByteArray} {ks : List ByteArray} {len : Nat} (h : headOk k n s ks len = true) :
    (k = 240 ∧ n = 0 ∧ s.size = 0 ∧ ks = [] ∧ len = 0) ∨ (k = 8 ∧ n ≤ 1 ∧ s.size = 0 ∧ ks = [] ∧ len = 0) ∨ (k = 2 ∧ n ≤ 255 ∧ s.size = 0 ∧ ks = [] ∧ len = 0) ∨
    ((k = 49 ∨ k = 50) ∧ s.size = 0 ∧ ks = [] ∧ len = 0) ∨ (k = 149 ∧ n = 0 ∧ s.size ≤ 4096 ∧ u8s s = true ∧ ks = [] ∧ len = 0) ∨ (k = 160 ∧ n = 0 ∧ s.size ≤ 4096 ∧ ks = [] ∧ len = 0) ∨
    (k = 168 ∧ n = 0 ∧ s.size = 0 ∧ ks.length = len ∧ keysOk ks = true) ∨ (k = 169 ∧ n = 0 ∧ s.size = 0 ∧ ks = []) := by
  unfold headOk at h; simp only [Bool.and_eq_true, Bool.or_eq_true, beq_iff_eq, List.isEmpty_iff] at h; obtain ⟨⟨h1, h2⟩, h3⟩ := h; have hks : k ≠ 168 → ks = [] := fun hk => h1.resolve_left hk
  have hl : k ≠ 168 → k ≠ 169 → len = 0 := fun a b => by rcases h2 with (h | h) | h; exact absurd h a; exact absurd h b; exact h
  by_cases a1 : k = 240
  · rw [if_pos a1] at h3; simp only [Bool.and_eq_true, beq_iff_eq] at h3; exact .inl ⟨a1, h3.1, h3.2, hks (by omega), hl (by omega) (by omega)⟩
  rw [if_neg a1] at h3; by_cases a2 : k = 8
  · rw [if_pos a2] at h3; simp only [Bool.and_eq_true, beq_iff_eq, decide_eq_true_eq] at h3; exact .inr (.inl ⟨a2, h3.1, h3.2, hks (by omega), hl (by omega) (by omega)⟩)
  rw [if_neg a2] at h3; by_cases a3 : k = 2
  · rw [if_pos a3] at h3; simp only [Bool.and_eq_true, beq_iff_eq, decide_eq_true_eq] at h3; exact .inr (.inr (.inl ⟨a3, h3.1, h3.2, hks (by omega), hl (by omega) (by omega)⟩))
  rw [if_neg a3] at h3; by_cases a4 : k = 49 ∨ k = 50
  · rw [if_pos a4] at h3; simp only [beq_iff_eq] at h3; exact .inr (.inr (.inr (.inl ⟨a4, h3, hks (by omega), hl (by omega) (by omega)⟩)))
  rw [if_neg a4] at h3; by_cases a5 : k = 149
  · rw [if_pos a5] at h3; simp only [Bool.and_eq_true, beq_iff_eq, decide_eq_true_eq] at h3; exact .inr (.inr (.inr (.inr (.inl ⟨a5, h3.1.1, h3.1.2, h3.2, hks (by omega), hl (by omega) (by omega)⟩))))
  rw [if_neg a5] at h3; by_cases a6 : k = 160
  · rw [if_pos a6] at h3; simp only [Bool.and_eq_true, beq_iff_eq, decide_eq_true_eq] at h3; exact .inr (.inr (.inr (.inr (.inr (.inl ⟨a6, h3.1, h3.2, hks (by omega), hl (by omega) (by omega)⟩)))))
  rw [if_neg a6] at h3; by_cases a7 : k = 168
  · rw [if_pos a7] at h3; simp only [Bool.and_eq_true, beq_iff_eq] at h3; exact .inr (.inr (.inr (.inr (.inr (.inr (.inl ⟨a7, h3.1.2, h3.2, h3.1.1.1, h3.1.1.2⟩))))))
  rw [if_neg a7] at h3; by_cases a8 : k = 169
  · rw [if_pos a8] at h3; simp only [Bool.and_eq_true, beq_iff_eq] at h3; exact .inr (.inr (.inr (.inr (.inr (.inr (.inr ⟨a8, h3.1, h3.2, hks a7⟩))))))
  rw [if_neg a8] at h3; exact absurd h3 (by simp)
/-- Numbers in their bounds. -/
inductive V.Wf : V → Prop
  | mk {k n : Int} {s : ByteArray} {ks : List ByteArray} {l : List V} : 0 ≤ n → n < 18446744073709551616 → 0 ≤ k → k < 256 → (∀ t ∈ l, V.Wf t) → V.Wf (.mk k n s ks l)
theorem V.Wf.inv {k n : Int} {s : ByteArray} {ks : List ByteArray} {l : List V} (h : V.Wf (.mk k n s ks l)) : 0 ≤ n ∧ n < 18446744073709551616 ∧ 0 ≤ k ∧ k < 256 ∧ ∀ t ∈ l, V.Wf t := by
  cases h with | mk a b c d e => exact ⟨a, b, c, d, e⟩
/-- How long the bytes are. -/
theorem bytesL_len (m : Bool) : ∀ (l : List V) (ks : List ByteArray) (left : Int), (∀ t ∈ l, ∀ left : Int, 0 ≤ t.cnt left → (t.bytes.length : Int) + 256 ≤ 5000 * (left - t.cnt left)) →
    (m = true → ∀ k ∈ ks, k.size ≤ 255) → 0 ≤ V.cntL l left → ((V.bytesL m ks l).length : Int) ≤ 5000 * (left - V.cntL l left)
  | [], ks, left, _, _, _ => by unfold V.bytesL V.cntL; simp
  | x :: xs, ks, left, hx, hk, hc => by
    unfold V.cntL at hc ⊢; by_cases hn : left < 0
    · rw [if_pos hn] at hc; omega
    · rw [if_neg hn] at hc ⊢; unfold V.bytesL; have h1 := hx x (List.mem_cons_self ..) left (by have := cntL_le xs (x.cnt left); omega); have h2 := bytesL_len m xs ks.tail (x.cnt left) (fun t ht => hx t (List.mem_cons_of_mem _ ht)) (fun hm k hk' => hk hm k (List.mem_of_mem_tail hk')) hc
      have h3 : ((if m = true then be 1 (ks.headD ByteArray.empty).size ++ (ks.headD ByteArray.empty).data.toList else []).length : Int) ≤ 256 := by
        split
        · rename_i hm; rw [List.length_append, be_len, ba_len]
          have : (ks.headD ByteArray.empty).size ≤ 255 := by
            cases ks with
            | nil => simp
            | cons a as => exact hk hm a (List.mem_cons_self ..)
          omega
        · simp
      rw [List.length_append, List.length_append]
      push_cast at *
      omega
theorem bytes_len : ∀ (v : V), v.may = true → ∀ left : Int, 0 ≤ v.cnt left → (v.bytes.length : Int) + 256 ≤ 5000 * (left - v.cnt left) := by
  intro v
  induction v using V.ind with
  | h k n s ks l ih =>
    intro hm left hc; obtain ⟨hh, hL⟩ := may_mk hm; have hcl := hc; unfold V.cnt at hc ⊢; have hle := cntL_le l (left - 1); have hb : (∀ k' ∈ ks, k'.size ≤ 255) → ((V.bytesL (k == 168) ks l).length : Int) ≤ 5000 * (left - 1 - V.cntL l (left - 1)) := fun hk => bytesL_len _ l ks (left - 1) (fun t ht => ih t ht (mayL_mem hL t ht)) (fun _ => hk) hc
    have hsz := ba_len s; unfold V.bytes; rcases headOk_cases hh with h | h | h | h | h | h | h | h
    · obtain ⟨rfl, -⟩ := h; simp; omega
    · obtain ⟨rfl, -⟩ := h; simp [be_len]; omega
    · obtain ⟨rfl, -⟩ := h; simp [be_len]; omega
    · obtain ⟨rfl | rfl, -⟩ := h <;> (simp [be_len]; omega)
    · obtain ⟨rfl, -, h1, -⟩ := h; simp [be_len]; omega
    · obtain ⟨rfl, -, h1, -⟩ := h; simp [be_len]; omega
    · obtain ⟨rfl, -, -, -, h1⟩ := h; have := hb (fun k' hk' => (keysOk_mem h1 k' hk').2); simp [be_len] at this ⊢; omega
    · obtain ⟨rfl, -, -, rfl⟩ := h; have := hb (fun k' hk' => by simp at hk'); simp [be_len] at this ⊢; omega
theorem cntL_len (l : List V) (m : Int) (h : 0 ≤ V.cntL l m) : (l.length : Int) ≤ m - V.cntL l m := by
  induction l generalizing m with
  | nil => unfold V.cntL; simp
  | cons x xs ih =>
    unfold V.cntL at h ⊢; by_cases hn : m < 0
    · rw [if_pos hn] at h; omega
    · rw [if_neg hn] at h ⊢; have := ih _ h; have := cnt_lt x m; simp only [List.length_cons]; push_cast; omega
/-! ### completeness: what was written is read -/
theorem rdMany_put (f : Int → List UInt8 → Option (V × Int × List UInt8)) (m : Bool) : ∀ (l : List V) (ks : List ByteArray) (left : Int) (r : List UInt8),
    (∀ t ∈ l, ∀ (left : Int) (r : List UInt8), left ≤ 200 → 0 ≤ t.cnt left → f left (t.bytes ++ r) = some (t, t.cnt left, r)) →
    (m = true → ks.length = l.length ∧ ∀ k ∈ ks, k.size ≤ 255) → (m = false → ks = []) → left ≤ 200 → 0 ≤ V.cntL l left →
    rdMany f m l.length left (V.bytesL m ks l ++ r) = some (ks, l, V.cntL l left, r)
  | [], ks, left, r, _, hk, hk', _, _ => by
    have : ks = [] := by
      cases m
      · exact hk' rfl
      · exact List.length_eq_zero_iff.1 (hk rfl).1
    subst this; unfold V.bytesL V.cntL rdMany; simp
  | x :: xs, ks, left, r, hf, hk, hk', hl, hc => by
    unfold V.cntL at hc ⊢; by_cases hn : left < 0
    · rw [if_pos hn] at hc; omega
    · rw [if_neg hn] at hc ⊢; have hx := cnt_lt x left; have hxL := cntL_le xs (x.cnt left); have h1 := hf x (List.mem_cons_self ..) left; have h2 := fun ks' h3 h4 => rdMany_put f m xs ks' (x.cnt left) r (fun t ht => hf t (List.mem_cons_of_mem _ ht)) h3 h4 (by omega) hc
      unfold V.bytesL; rw [List.length_cons]; unfold rdMany; cases m
      · obtain rfl := hk' rfl; have h2' := h2 [] (by simp) (fun _ => rfl); simp only [Bool.false_eq_true, ↓reduceIte, List.nil_append, Option.bind_some, List.append_assoc, List.tail_nil]; rw [h1 _ hl (by omega), Option.bind_some]; dsimp only; rw [h2', Option.bind_some]
      · obtain ⟨hl', hk2⟩ := hk rfl
        cases ks with
        | nil => simp at hl'
        | cons a as =>
          have h2' := h2 as (fun _ => ⟨by simpa using hl', fun k hk => hk2 k (List.mem_cons_of_mem _ hk)⟩) (by simp); have ha := hk2 a (List.mem_cons_self ..); simp only [↓reduceIte, List.headD_cons, List.tail_cons, List.append_assoc]; rw [gT_put 1 255 a (by omega) ha, Option.bind_some]; dsimp only; rw [h1 _ hl (by omega), Option.bind_some]; dsimp only; rw [h2', Option.bind_some]
theorem deep_any {d : Nat} {k n : Int} {s : ByteArray} {ks : List ByteArray} {l : List V} (h : (V.mk k n s ks l).deep (d + 1) = false) : ∀ t ∈ l, t.deep d = false := by
  unfold V.deep at h; intro t ht; have := List.any_eq_false.1 h t ht
  simpa using this
theorem gN_one (k : Int) (h0 : 0 ≤ k) (h1 : k < 256) (r : List UInt8) : gN 1 (UInt8.ofNat k.toNat :: r) = some (k.toNat, r) := by
  have := gN_be 1 k.toNat (by omega) r; unfold be at this; have e : be 0 (k.toNat / 256) = [] := rfl; rw [e, Nat.mod_eq_of_lt (by omega)] at this; exact this
theorem size0 {s : ByteArray} (h : s.size = 0) : s = ByteArray.empty := by
  obtain ⟨d⟩ := s; have : d = #[] := Array.eq_empty_of_size_eq_zero h; subst this; rfl
theorem rdP_put : ∀ (d : Nat) (v : V) (left : Int) (r : List UInt8), v.Wf → v.deep d = false → v.may = true → left ≤ 200 → 0 ≤ v.cnt left → rdP d left (v.bytes ++ r) = some (v, v.cnt left, r)
  | 0, v, _, _, _, hd, _, _, _ => by cases v; unfold V.deep at hd; simp at hd
  | d + 1, .mk k n s ks l, left, r, hw, hd, hm, hl, hc => by
    obtain ⟨hh, hL⟩ := may_mk hm; obtain ⟨n0, n1, -, -, hwl⟩ := hw.inv; have hda := deep_any hd; have hc0 := hc; have hblen := fun (h : ∀ k' ∈ ks, k'.size ≤ 255) => bytesL_len (k == 168) l ks (left - 1) (fun t ht => bytes_len t (mayL_mem hL t ht)) (fun _ => h) (by unfold V.cnt at hc; exact hc)
    unfold V.cnt at hc ⊢; have hle := cntL_le l (left - 1); have hlen := cntL_len l (left - 1) hc
    have hsub := fun (h1 : (k == 168) = true → ks.length = l.length ∧ ∀ k' ∈ ks, k'.size ≤ 255) (h2 : (k == 168) = false → ks = []) =>
      rdMany_put (rdP d) (k == 168) l ks (left - 1) r (fun t ht left r hl hc => rdP_put d t left r (hwl t ht) (hda t ht) (mayL_mem hL t ht) hl hc) h1 h2 (by omega) hc
    unfold V.bytes rdP; have hneg : ¬ left - 1 < 0 := by omega
    rcases headOk_cases hh with h | h | h | h | h | h | h | h
    · obtain ⟨rfl, rfl, h2, rfl, h3⟩ := h; obtain rfl := List.length_eq_zero_iff.1 h3; obtain rfl := size0 h2; rw [List.cons_append, gN_one _ (by omega) (by omega), Option.bind_some]; simp [hneg]; unfold V.cntL; rfl
    · obtain ⟨rfl, h1, h2, rfl, h3⟩ := h; obtain rfl := List.length_eq_zero_iff.1 h3; obtain rfl := size0 h2; rw [List.cons_append, gN_one _ (by omega) (by omega), Option.bind_some]; have := gN_be 1 n.toNat (by omega) r; simp [hneg, this, Int.toNat_of_nonneg n0]; unfold V.cntL; rfl
    · obtain ⟨rfl, h1, h2, rfl, h3⟩ := h; obtain rfl := List.length_eq_zero_iff.1 h3; obtain rfl := size0 h2; rw [List.cons_append, gN_one _ (by omega) (by omega), Option.bind_some]; have := gN_be 1 n.toNat (by omega) r; simp [hneg, this, Int.toNat_of_nonneg n0]; unfold V.cntL; rfl
    · obtain ⟨hk, h2, rfl, h3⟩ := h; obtain rfl := List.length_eq_zero_iff.1 h3; obtain rfl := size0 h2; have := gN_be 8 n.toNat (by omega) r; rcases hk with rfl | rfl
      all_goals
        rw [List.cons_append, gN_one _ (by omega) (by omega), Option.bind_some]; simp [hneg, this, Int.toNat_of_nonneg n0]; unfold V.cntL; rfl
    · obtain ⟨rfl, rfl, h1, -, rfl, h3⟩ := h; obtain rfl := List.length_eq_zero_iff.1 h3; rw [List.cons_append, gN_one _ (by omega) (by omega), Option.bind_some]; have := gT_put 2 4096 s (by omega) h1 r; simp [hneg, this]; unfold V.cntL; rfl
    · obtain ⟨rfl, rfl, h1, rfl, h3⟩ := h; obtain rfl := List.length_eq_zero_iff.1 h3; rw [List.cons_append, gN_one _ (by omega) (by omega), Option.bind_some]; have := gT_put 4 4096 s (by omega) h1 r; simp [hneg, this]; unfold V.cntL; rfl
    · obtain ⟨rfl, rfl, h1, h2, h3⟩ := h; obtain rfl := size0 h1; have hkk := keysOk_mem h3; have hb := hblen (fun k' hk' => (hkk k' hk').2); have hs := hsub (fun _ => ⟨h2, fun k' hk' => (hkk k' hk').2⟩) (by simp); rw [List.cons_append, gN_one _ (by omega) (by omega), Option.bind_some]; have g1 := gN_be 4 (4 + (V.bytesL true ks l).length) (by simp at hb; omega) (be 4 l.length ++ (V.bytesL true ks l ++ r)); have g2 := gN_be 4 l.length (by omega) (V.bytesL true ks l ++ r); simp at hs hb; have e1 : ((be 4 l.length ++ (V.bytesL true ks l ++ r)).length) - r.length = 4 + (V.bytesL true ks l).length := by simp [be_len]; omega
      have e2 : 4 + (V.bytesL true ks l).length ≤ (be 4 l.length ++ (V.bytesL true ks l ++ r)).length ∧ l.length < 200 := ⟨by simp [be_len], by omega⟩; simp [hneg, g1, g2, hs, be_len] at e1 e2 ⊢; omega
    · obtain ⟨rfl, rfl, h1, rfl⟩ := h; obtain rfl := size0 h1; have hb := hblen (fun k' hk' => by simp at hk'); have hs := hsub (by simp) (fun _ => rfl); rw [List.cons_append, gN_one _ (by omega) (by omega), Option.bind_some]; have g1 := gN_be 4 (4 + (V.bytesL false [] l).length) (by simp at hb; omega) (be 4 l.length ++ (V.bytesL false [] l ++ r)); have g2 := gN_be 4 l.length (by omega) (V.bytesL false [] l ++ r); simp at hs hb; simp [hneg, g1, g2, hs, be_len]; omega
/-! ### soundness: what is read was written -/
theorem bind_inv {α β : Type} {o : Option α} {f : α → Option β} {y : β} (h : o.bind f = some y) : ∃ x, o = some x ∧ f x = some y := by
  cases o with
  | none => simp at h
  | some x => exact ⟨x, rfl, h⟩
theorem rdMany_inv (f : Int → List UInt8 → Option (V × Int × List UInt8)) (m : Bool) (hf : ∀ left b x l' r', f left b = some (x, l', r') → b = x.bytes ++ r' ∧ x.Wf) :
    ∀ (n : Nat) (left : Int) (b : List UInt8) (ks : List ByteArray) (l : List V) (left' : Int) (r : List UInt8), rdMany f m n left b = some (ks, l, left', r) →
    b = V.bytesL m ks l ++ r ∧ l.length = n ∧ (m = false → ks = []) ∧ ∀ t ∈ l, t.Wf
  | 0, left, b, ks, l, left', r, h => by
    unfold rdMany at h; simp only [Option.some.injEq, Prod.mk.injEq] at h; obtain ⟨rfl, rfl, rfl, rfl⟩ := h; refine ⟨by unfold V.bytesL; rfl, rfl, fun _ => rfl, by simp⟩
  | n + 1, left, b, ks, l, left', r, h => by
    unfold rdMany at h; obtain ⟨⟨key, b1⟩, h1, h⟩ := bind_inv h; obtain ⟨⟨x, left1, b2⟩, h2, h⟩ := bind_inv h; obtain ⟨⟨ks1, l1, left2, b3⟩, h3, h⟩ := bind_inv h; simp only [Option.some.injEq, Prod.mk.injEq] at h; obtain ⟨hk, rfl, rfl, rfl⟩ := h; obtain ⟨e2, w2⟩ := hf _ _ _ _ _ h2; obtain ⟨e3, q1, q2, q3⟩ := rdMany_inv f m hf n _ _ _ _ _ _ h3
    have hw : ∀ t ∈ x :: l1, t.Wf := fun t ht => by
      rcases List.mem_cons.1 ht with rfl | ht
      · exact w2
      · exact q3 t ht
    unfold V.bytesL; cases m
    · simp only [Bool.false_eq_true, ↓reduceIte, Option.some.injEq, Prod.mk.injEq] at h1 hk; obtain ⟨-, rfl⟩ := h1; subst hk; obtain rfl := q2 rfl; refine ⟨by rw [e2, e3]; simp, by simp [q1], fun _ => rfl, hw⟩
    · simp only [↓reduceIte] at h1 hk; subst hk; obtain ⟨e1, -, -⟩ := gT_inv h1; refine ⟨by rw [e1, e2, e3]; simp, by simp [q1], by simp, hw⟩
theorem ofNat_gN {k : Nat} {b b1 : List UInt8} (h : gN 1 b = some (k, b1)) : b = UInt8.ofNat k :: b1 ∧ k < 256 := by
  obtain ⟨h1, h2⟩ := gN_inv h; refine ⟨?_, h2⟩; rw [h1]; unfold be; rw [Nat.mod_eq_of_lt (by omega)]; rfl
theorem rdP_inv : ∀ (d : Nat) (left : Int) (b : List UInt8) (v : V) (left' : Int) (r : List UInt8), rdP d left b = some (v, left', r) → b = v.bytes ++ r ∧ v.Wf
  | 0, _, _, _, _, _, h => by unfold rdP at h; simp at h
  | d + 1, left, b, v, left', r, h => by
    unfold rdP at h; obtain ⟨⟨k, b1⟩, h1, h⟩ := bind_inv h; obtain ⟨e1, k1⟩ := ofNat_gN h1; dsimp only at h; have hk8 : ((k : Int)).toNat = k := by omega
    split at h
    · simp at h
    split at h
    · rename_i hk; simp only [Option.some.injEq, Prod.mk.injEq] at h; obtain ⟨rfl, -, rfl⟩ := h; obtain rfl : k = 240 := by omega
      exact ⟨by rw [e1]; unfold V.bytes; simp, .mk (by omega) (by omega) (by omega) (by omega) (by simp)⟩
    split at h
    · rename_i hk; obtain ⟨⟨n, b2⟩, h2, h⟩ := bind_inv h; simp only [Option.some.injEq, Prod.mk.injEq] at h; obtain ⟨rfl, -, rfl⟩ := h; obtain ⟨e2, n2⟩ := gN_inv h2; refine ⟨?_, .mk (by omega) (by omega) (by omega) (by omega) (by simp)⟩; have : k = 8 ∨ k = 2 := by omega
      rcases this with rfl | rfl <;> (rw [e1, e2]; unfold V.bytes; simp)
    split at h
    · rename_i hk; obtain ⟨⟨n, b2⟩, h2, h⟩ := bind_inv h; simp only [Option.some.injEq, Prod.mk.injEq] at h; obtain ⟨rfl, -, rfl⟩ := h; obtain ⟨e2, n2⟩ := gN_inv h2; refine ⟨?_, .mk (by omega) (by omega) (by omega) (by omega) (by simp)⟩; have : k = 49 ∨ k = 50 := by omega
      rcases this with rfl | rfl <;> (rw [e1, e2]; unfold V.bytes; simp)
    split at h
    · rename_i hk; obtain ⟨⟨s, b2⟩, h2, h⟩ := bind_inv h; simp only [Option.some.injEq, Prod.mk.injEq] at h; obtain ⟨rfl, -, rfl⟩ := h; obtain ⟨e2, n2⟩ := gT_inv h2; refine ⟨?_, .mk (by omega) (by omega) (by omega) (by omega) (by simp)⟩; obtain rfl : k = 149 := by omega
      rw [e1, e2]; unfold V.bytes; simp
    split at h
    · rename_i hk; obtain ⟨⟨s, b2⟩, h2, h⟩ := bind_inv h; simp only [Option.some.injEq, Prod.mk.injEq] at h; obtain ⟨rfl, -, rfl⟩ := h; obtain ⟨e2, n2⟩ := gT_inv h2; refine ⟨?_, .mk (by omega) (by omega) (by omega) (by omega) (by simp)⟩; obtain rfl : k = 160 := by omega
      rw [e1, e2]; unfold V.bytes; simp
    split at h
    · rename_i hk; obtain ⟨⟨size, b2⟩, h2, h⟩ := bind_inv h; obtain ⟨⟨n, b3⟩, h3, h⟩ := bind_inv h; dsimp only at h; split at h
      · rename_i hc; obtain ⟨⟨ks, l, left2, b4⟩, h4, h⟩ := bind_inv h; dsimp only at h; split at h
        · rename_i hs; simp only [Option.some.injEq, Prod.mk.injEq] at h; obtain ⟨rfl, -, rfl⟩ := h; obtain ⟨e2, n2⟩ := gN_inv h2; obtain ⟨e3, n3⟩ := gN_inv h3; obtain ⟨e4, q1, -, q3⟩ := rdMany_inv (rdP d) _ (fun left b x l' r' h => rdP_inv d left b x l' r' h) _ _ _ _ _ _ _ h4; refine ⟨?_, .mk (by omega) (by omega) (by omega) (by omega) q3⟩; subst q1
          have hsz : size = 4 + (V.bytesL (k == 168) ks l).length := by
            dsimp only at e3; rw [e3, e4] at hs; simp [be_len] at hs; omega
          dsimp only at e3; have : k = 168 ∨ k = 169 := by omega
          rw [e1, e2, e3, e4, hsz]; rcases this with rfl | rfl <;> (unfold V.bytes; simp)
        · simp at h
      · simp at h
    · simp at h
/-! ### the laws -/
theorem chk_zero {v : V} (h : v.chk = 0) : v.deep 6 = false ∧ 0 ≤ v.cnt 200 ∧ v.may = true := by
  unfold V.chk at h; split at h
  · omega
  · rename_i h1; split at h
    · omega
    · rename_i h2; split at h
      · rename_i h3; exact ⟨by simpa using h1, by omega, h3⟩
      · omega
theorem getP_put {v : V} (hw : v.Wf) (h : v.chk = 0) (r : List UInt8) : getP (v.bytes ++ r) = some (v, v.bytes.length) := by
  obtain ⟨h1, h2, h3⟩ := chk_zero h; unfold getP; rw [rdP_put 6 v 200 r hw h1 h3 (by omega) h2, Option.bind_some]; dsimp only; rw [if_pos h]; simp
theorem getP_inv {b : List UInt8} {v : V} {n : Nat} (h : getP b = some (v, n)) : v.chk = 0 ∧ v.Wf ∧ n = v.bytes.length ∧ ∃ r, b = v.bytes ++ r := by
  unfold getP at h; obtain ⟨⟨v1, left, r⟩, h1, h⟩ := bind_inv h; dsimp only at h; split at h
  · rename_i hc; simp only [Option.some.injEq, Prod.mk.injEq] at h; obtain ⟨rfl, rfl⟩ := h; obtain ⟨e, hw⟩ := rdP_inv _ _ _ _ _ _ h1; exact ⟨hc, hw, by rw [e]; simp, r, e⟩
  · simp at h
end Go.Proofs.YtlonokcaddpniaaGreatDoor
