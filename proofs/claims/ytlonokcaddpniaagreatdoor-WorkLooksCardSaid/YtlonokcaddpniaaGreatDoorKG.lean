/- The program's reader of values: what read and many leave, as statements. Conditions: none. (Texts joined.) -/
import Derived.Test.YtlonokcaddpniaaGreatDoorKC
import Derived.Test.YtlonokcaddpniaaGreatDoorKA
import Derived.Deep.Cut
set_option linter.unusedSimpArgs false
set_option linter.unusedVariables false
namespace Go.Proofs.YtlonokcaddpniaaGreatDoor
open Go.RowKit
theorem rdMany_left (f : Int → List UInt8 → Option (V × Int × List UInt8)) (m : Bool) (hf : ∀ left b x l' r', f left b = some (x, l', r') → 0 ≤ l' ∧ l' ≤ left) :
    ∀ (n : Nat) (left : Int) (b : List UInt8) (ks : List ByteArray) (l : List V) (l' : Int) (r : List UInt8), rdMany f m n left b = some (ks, l, l', r) → 0 ≤ left → 0 ≤ l' ∧ l' ≤ left
  | 0, left, b, ks, l, l', r, h, h0 => by
    unfold rdMany at h; simp only [Option.some.injEq, Prod.mk.injEq] at h; obtain ⟨-, -, rfl, -⟩ := h; omega
  | n + 1, left, b, ks, l, l', r, h, h0 => by
    unfold rdMany at h; obtain ⟨⟨key, b1⟩, h1, h⟩ := bind_inv h; obtain ⟨⟨x, l1, b2⟩, h2, h⟩ := bind_inv h; obtain ⟨⟨ks2, ls2, l2, b3⟩, h3, h⟩ := bind_inv h; simp only [Option.some.injEq, Prod.mk.injEq] at h; obtain ⟨-, -, rfl, -⟩ := h; have a := hf _ _ _ _ _ h2; have b := rdMany_left f m hf n _ _ _ _ _ _ h3 a.1; omega
theorem rdP_left : ∀ (d : Nat) (left : Int) (b : List UInt8) (v : V) (l' : Int) (r : List UInt8), rdP d left b = some (v, l', r) → 0 ≤ l' ∧ l' ≤ left
  | 0, left, b, v, l', r, h => by unfold rdP at h; simp at h
  | d + 1, left, b, v, l', r, h => by
    unfold rdP at h; obtain ⟨⟨k, b1⟩, h1, h⟩ := bind_inv h; dsimp only at h; split at h
    · cases h
    rename_i hl; split at h
    · simp only [Option.some.injEq, Prod.mk.injEq] at h; obtain ⟨-, rfl, -⟩ := h; omega
    split at h
    · obtain ⟨⟨n, b2⟩, h2, h⟩ := bind_inv h; simp only [Option.some.injEq, Prod.mk.injEq] at h; obtain ⟨-, rfl, -⟩ := h; omega
    split at h
    · obtain ⟨⟨n, b2⟩, h2, h⟩ := bind_inv h; simp only [Option.some.injEq, Prod.mk.injEq] at h; obtain ⟨-, rfl, -⟩ := h; omega
    split at h
    · obtain ⟨⟨n, b2⟩, h2, h⟩ := bind_inv h; simp only [Option.some.injEq, Prod.mk.injEq] at h; obtain ⟨-, rfl, -⟩ := h; omega
    split at h
    · obtain ⟨⟨n, b2⟩, h2, h⟩ := bind_inv h; simp only [Option.some.injEq, Prod.mk.injEq] at h; obtain ⟨-, rfl, -⟩ := h; omega
    split at h
    · obtain ⟨⟨n, b2⟩, h2, h⟩ := bind_inv h; obtain ⟨⟨n', b3⟩, h3, h⟩ := bind_inv h; dsimp only at h; split at h
      · obtain ⟨⟨ks, ls, l2, b4⟩, h4, h⟩ := bind_inv h; dsimp only at h; split at h
        · simp only [Option.some.injEq, Prod.mk.injEq] at h; obtain ⟨-, rfl, -⟩ := h; have := rdMany_left _ _ (fun left b x l' r' h => rdP_left d left b x l' r' h) _ _ _ _ _ _ _ h4 (by omega); omega
        · cases h
      · cases h
    · cases h
theorem rdP_len {d : Nat} {left : Int} {b : List UInt8} {v : V} {l' : Int} {r : List UInt8} (h : rdP d left b = some (v, l', r)) : r.length ≤ b.length := by
  have := (rdP_inv d left b v l' r h).1; rw [this, List.length_append]; omega
theorem gT_lt {w most : Nat} {b r : List UInt8} {s : ByteArray} (h : gT w most b = some (s, r)) : r.length ≤ b.length := by
  have := (gT_inv h).1; rw [this]; simp only [List.length_append]; omega
/-- The program's reader of values lies at qb, octet's at rb, its inner part at vb. -/
def PR (w : World) (qb rb vb : Nat) (left : Int) (b : List UInt8) (bad : Bool) : Prop :=
  Blk w qb [.pointer (some ⟨rb, 0, none⟩), .int .i64 left] ∧ RdP w rb vb ∧ RdS w vb b bad ∧ rb < qb
/-- What the reader writes. -/
def Two (qb vb : Nat) (k : Nat) : Prop := k = qb ∨ k = vb
section
variable {S : Nat → Prop} {w w' : World} {qb rb vb : Nat} {left : Int} {b : List UInt8} {bad : Bool}
theorem RdS.above (h : RdS w vb b bad) (hu : Upd S w w') (hS : ∀ k, S k → vb < k) : RdS w' vb b bad := by
  obtain ⟨bv, h1, h2, h3⟩ := h; exact ⟨bv, h1.upd hu (fun e => by have := hS _ e; omega), h2.upd hu (fun k hk e => by have := hS _ e; have := h3 k hk; omega), h3⟩
theorem PR.q (h : PR w qb rb vb left b bad) : Blk w qb [.pointer (some ⟨rb, 0, none⟩), .int .i64 left] := h.1
theorem PR.p (h : PR w qb rb vb left b bad) : RdP w rb vb := h.2.1
theorem PR.s (h : PR w qb rb vb left b bad) : RdS w vb b bad := h.2.2.1
theorem PR.vq (h : PR w qb rb vb left b bad) : vb < qb := Nat.lt_trans h.2.1.2 h.2.2.2
theorem PR.lt (h : PR w qb rb vb left b bad) : qb < w.heap.size := h.1.lt
theorem PR.above (h : PR w qb rb vb left b bad) (hu : Upd S w w') (hS : ∀ k, S k → qb < k) : PR w' qb rb vb left b bad :=
  ⟨h.1.upd hu (fun e => by have := hS _ e; omega), ⟨h.2.1.1.upd hu (fun e => by have := hS _ e; have := h.2.2.2; omega), h.2.1.2⟩, h.2.2.1.above hu (fun k hk => by have := hS _ hk; have := h.vq; omega), h.2.2.2⟩
theorem PR.pure (h : PR w qb rb vb left b bad) (hB : Below w.heap.size w w') : PR w' qb rb vb left b bad :=
  ⟨h.1.pure hB, h.2.1.pure hB, h.2.2.1.pure hB, h.2.2.2⟩
theorem PR.turn {b' : List UInt8} {bad' : Bool} (h : PR w qb rb vb left b bad) (hs : RdS w' vb b' bad') (hu : Upd (Only vb) w w') : PR w' qb rb vb left b' bad' :=
  ⟨h.1.upd hu (fun e => by have := h.vq; unfold Only at e; omega), h.2.1.upd hu, hs, h.2.2.2⟩
theorem PR.setL (h : PR w qb rb vb left b bad) (l : Int) : PR (w.setCell ⟨qb, 1, none⟩ (.int .i64 l)) qb rb vb l b bad := by
  have hu : Upd (fun k => k = qb) w (w.setCell ⟨qb, 1, none⟩ (.int .i64 l)) := Upd.set (S := fun k => k = qb) (p := ⟨qb, 1, none⟩) rfl _; refine ⟨h.1.set 1 (.int .i64 l), ⟨h.2.1.1.upd hu (fun e => Nat.ne_of_lt h.2.2.2 e), h.2.1.2⟩, h.2.2.1.above hu (fun k hk => by have := h.vq; omega), h.2.2.2⟩
end
abbrev wrongE : PanicEntry := { v := .iface 182 (.agg #[]), recovered := false }
set_option maxRecDepth 100000 in
theorem vmust_ok (w : World) (qb rb vb : Nat) (left : Int) (b : List UInt8) (h : PR w qb rb vb left b false) :
    Calls Tryz.prog 140 #[.pointer (some ⟨qb, 0, none⟩), .bool true] w fun e w' => e = .returned (.tuple #[]) ∧ w = w' := by
  have c0 := h.1.at 0 rfl; go_enter Tryz.func140, Tryz.ntmps140; go_wp2_with fail; refine (bad_any _ rb vb b false h.2.1 h.2.2.1).mono ?_; rintro e w1 ⟨rfl, rfl⟩; go_wp2; go_end0; exact ⟨rfl, rfl⟩
/-! ### octet's calls, as the reader of values makes them -/
theorem pnum_yes (w : World) (qb rb vb : Nat) (left : Int) (b : List UInt8) (wd n : Nat) (c : Int) (r : List UInt8) (h : PR w qb rb vb left b false) (hc : c = (wd : Int)) (hw : Wd wd) (hg : gN wd b = some (n, r)) (hL : Big b.length) :
    Calls Tryz.prog 87 #[.pointer (some ⟨rb, 0, none⟩), .int .i64 c] w fun e w' => e = .returned (.int .u64 n) ∧ PR w' qb rb vb left r false ∧ Upd (Only vb) w w' := by
  subst hc; exact (num_yes w rb vb b wd n r h.p h.s hw hg hL).mono fun e w' ⟨a, b, c⟩ => ⟨a, h.turn b c, c⟩
theorem ptext_yes (w : World) (qb rb vb : Nat) (left : Int) (b : List UInt8) (wd most : Nat) (c m : Int) (s : ByteArray) (r : List UInt8) (h : PR w qb rb vb left b false) (hc : c = (wd : Int)) (hm : m = (most : Int)) (hw : wd = 1 ∨ wd = 2 ∨ wd = 4) (hM : most ≤ 4096) (hg : gT wd most b = some (s, r)) (hL : Big b.length) :
    Calls Tryz.prog 88 #[.pointer (some ⟨rb, 0, none⟩), .int .i64 c, .int .i64 m] w fun e w' => e = .returned (.string s) ∧ PR w' qb rb vb left r false ∧ Upd (Only vb) w w' := by
  subst hc hm; exact (text_yes w rb vb b wd most s r h.p h.s hw hg hL (by unfold Big; omega)).mono fun e w' ⟨a, b, c⟩ => ⟨a, h.turn b c, c⟩
theorem pleft (w : World) (qb rb vb : Nat) (left : Int) (b : List UInt8) (bad : Bool) (h : PR w qb rb vb left b bad) :
    Calls Tryz.prog 117 #[.pointer (some ⟨rb, 0, none⟩)] w fun e w' => e = .returned (.int .i64 b.length) ∧ w = w' := left_any w rb vb b bad h.p h.s
/-- What read leaves. -/
def ReadPost (w : World) (qb rb vb : Nat) : Option (V × Int × List UInt8) → Ending → World → Prop
  | none, e, w' => e = .panicked [wrongE] ∧ Upd (Two qb vb) w w'
  | some (x, left, r), e, w' => ∃ t : VT, e = .returned t.arg ∧ t.v = x ∧ Rd (fun k => w.heap.size ≤ k) w' t ∧ PR w' qb rb vb left r false ∧ Upd (Two qb vb) w w'
def Three (qb vb xb : Nat) (k : Nat) : Prop := k = qb ∨ k = vb ∨ k = xb
/-- What many leaves. -/
def ManyPost (w : World) (qb rb vb xb : Nat) (k : Int) : Option (List ByteArray × List V × Int × List UInt8) → Ending → World → Prop
  | none, e, w' => e = .panicked [wrongE] ∧ Upd (Three qb vb xb) w w'
  | some (ks, l, left, r), e, w' => ∃ (kv lv : Value) (L : List VT), e = .returned (.tuple #[]) ∧ Blk w' xb [.int .u8 k, .int .u64 0, .string ⟨#[]⟩, kv, lv] ∧ Own w.heap.size 9 1 strEnc w' kv ks ∧ Own w.heap.size 31 5 vEnc w' lv L ∧ L.map VT.v = l ∧
      (∀ x ∈ L, Rd (fun k => w.heap.size ≤ k) w' x) ∧ PR w' qb rb vb left r false ∧ Upd (Three qb vb xb) w w'
/-- What many reads, by what read reads. -/
def rdM (f : Int → List UInt8 → Option (V × Int × List UInt8)) (m : Bool) (left : Int) (b1 : List UInt8) : Option (List ByteArray × List V × Int × List UInt8) :=
  (gN 4 b1).bind fun (size, b2) => (gN 4 b2).bind fun (n, b3) =>
  if size ≤ b2.length ∧ n < 200 then (rdMany f m n left b3).bind fun (ks, l, left2, b4) => if b2.length - b4.length = size then some (ks, l, left2, b4) else none else none
theorem Blk.newK (w : World) (cs : List Value) (T : TypeId) (k : Nat) (h : w.heap.size = k) : Blk (w.alloc (.cells cs.toArray T)) k cs := h ▸ Blk.new w cs T
section
variable {S : Nat → Prop} {w w' : World} {B : Nat}
abbrev set5 (w : World) (B : Nat) (v0 v1 v2 v3 v4 : Value) : World := ((((w.setCell ⟨B, 0, none⟩ v0).setCell ⟨B, 1, none⟩ v1).setCell ⟨B, 2, none⟩ v2).setCell ⟨B, 3, none⟩ v3).setCell ⟨B, 4, none⟩ v4
theorem Upd.at5 (w : World) (B : Nat) (v0 v1 v2 v3 v4 : Value) : Upd (fun k => k = B) w (set5 w B v0 v1 v2 v3 v4) := by
  have s := fun (u : World) (i : Nat) (v : Value) => Upd.set (S := fun k => k = B) (w := u) (p := ⟨B, i, none⟩) rfl v
  exact ((((s _ _ _).trans (s _ _ _) (fun _ h _ => h)).trans (s _ _ _) (fun _ h _ => h)).trans (s _ _ _) (fun _ h _ => h)).trans (s _ _ _) (fun _ h _ => h)
theorem Upd.fresh5 (h : Upd S w w') (hB : w.heap.size ≤ B) (v0 v1 v2 v3 v4 : Value) : Upd S w (set5 w' B v0 v1 v2 v3 v4) := h.trans (Upd.at5 w' B v0 v1 v2 v3 v4) (fun i e hi => by omega)
theorem PR.fresh5 {qb rb vb : Nat} {left : Int} {b : List UInt8} {bad : Bool} (h : PR w qb rb vb left b bad) (hB : qb < B) (v0 v1 v2 v3 v4 : Value) : PR (set5 w B v0 v1 v2 v3 v4) qb rb vb left b bad := h.above (Upd.at5 w B v0 v1 v2 v3 v4) (fun k e => by omega)
theorem Blk.fresh5 {c0 c1 c2 c3 c4 : Value} (h : Blk w B [c0, c1, c2, c3, c4]) (v0 v1 v2 v3 v4 : Value) : Blk (set5 w B v0 v1 v2 v3 v4) B [v0, v1, v2, v3, v4] := ((((h.set 0 v0).set 1 v1).set 2 v2).set 3 v3).set 4 v4
end
theorem Rd.leaf {P : Nat → Prop} {w : World} {k n : Int} {s : ByteArray} (h0 : 0 ≤ n) (h1 : n < 18446744073709551616) (h2 : 0 ≤ k) (h3 : k < 256) : Rd P w (.mk k n s (.slice none 0 0) (.slice none 0 0) [] []) :=
  .mk (Slc.nil _ _ _) (fun e => absurd rfl e) (Slc.nil _ _ _) (fun e => absurd rfl e) (fun x hx => absurd hx (by simp [VT.l])) h0 h1 h2 h3
theorem gN_or (w : Nat) (b : List UInt8) : b.length < w ∨ ∃ n r, gN w b = some (n, r) := by
  by_cases h : w ≤ b.length
  · exact .inr ⟨_, _, if_pos h⟩
  · exact .inl (by omega)
theorem gN8 {n : Nat} {b r : List UInt8} (h : gN 1 b = some (n, r)) : n < 256 := (gN_inv h).2
theorem rdM_bind (f : Int → List UInt8 → Option (V × Int × List UInt8)) (m : Bool) (k left : Int) (b1 : List UInt8) :
    ((gN 4 b1).bind fun (x : Nat × List UInt8) => (gN 4 x.2).bind fun (y : Nat × List UInt8) =>
      if x.1 ≤ x.2.length ∧ y.1 < 200 then
        (rdMany f m y.1 left y.2).bind fun (z : List ByteArray × List V × Int × List UInt8) => if x.2.length - z.2.2.2.length = x.1 then some (V.mk k 0 ByteArray.empty z.1 z.2.1, z.2.2.1, z.2.2.2) else none
      else none) = (rdM f m left b1).bind fun (z : List ByteArray × List V × Int × List UInt8) => some (V.mk k 0 ByteArray.empty z.1 z.2.1, z.2.2.1, z.2.2.2) := by
  unfold rdM; rcases gN 4 b1 with _ | ⟨size, b2⟩
  · rfl
  rw [Option.bind_some, Option.bind_some]; dsimp only; rcases gN 4 b2 with _ | ⟨n, b3⟩
  · rfl
  rw [Option.bind_some, Option.bind_some]; dsimp only; split
  · rcases rdMany f m n left b3 with _ | ⟨ks, l, left2, b4⟩
    · rfl
    rw [Option.bind_some, Option.bind_some]; dsimp only; split <;> rfl
  · rfl
theorem Upd.two {qb vb : Nat} {a b c : World} (h : Upd (Two qb vb) a b) (k : Upd (Two qb vb) b c) : Upd (Two qb vb) a c := h.trans k (fun _ h _ => h)
theorem Upd.only_two {qb vb : Nat} {a b : World} (h : Upd (Only vb) a b) : Upd (Two qb vb) a b := h.mono (fun k hk _ => Or.inr hk)
end Go.Proofs.YtlonokcaddpniaaGreatDoor
