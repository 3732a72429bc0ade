/- The program's reader of values: 'read', where what 'many' does is given. Conditions: at most 200 values are left. Written by gen_getB.py. (Texts joined.) -/
import Derived.Test.YtflglpbjapgciaaGreatDoorKC
import Derived.Test.YtflglpbjapgciaaGreatDoorKA
import Derived.Deep.Cut

namespace Go.Proofs.YtflglpbjapgciaaGreatDoor
set_option linter.unusedSimpArgs false
set_option linter.unusedVariables false
open Go.RowKit
theorem rdMany_left (f : Int → List UInt8 → Option (V × Int × List UInt8)) (m : Bool) (hf : ∀ left b x l' r', f left b = some (x, l', r') → 0 ≤ l' ∧ l' ≤ left) :
    ∀ (n : Nat) (left : Int) (b : List UInt8) (ks : List ByteArray) (l : List V) (l' : Int) (r : List UInt8), rdMany f m n left b = some (ks, l, l', r) → 0 ≤ left → 0 ≤ l' ∧ l' ≤ left
  | 0, left, b, ks, l, l', r, h, h0 => by
    unfold rdMany at h
    simp only [Option.some.injEq, Prod.mk.injEq] at h
    obtain ⟨-, -, rfl, -⟩ := h
    omega
  | n + 1, left, b, ks, l, l', r, h, h0 => by
    unfold rdMany at h
    obtain ⟨⟨key, b1⟩, h1, h⟩ := bind_inv h
    obtain ⟨⟨x, l1, b2⟩, h2, h⟩ := bind_inv h
    obtain ⟨⟨ks2, ls2, l2, b3⟩, h3, h⟩ := bind_inv h
    simp only [Option.some.injEq, Prod.mk.injEq] at h
    obtain ⟨-, -, rfl, -⟩ := h
    have a := hf _ _ _ _ _ h2
    have b := rdMany_left f m hf n _ _ _ _ _ _ h3 a.1
    omega
theorem rdP_left : ∀ (d : Nat) (left : Int) (b : List UInt8) (v : V) (l' : Int) (r : List UInt8), rdP d left b = some (v, l', r) → 0 ≤ l' ∧ l' ≤ left
  | 0, left, b, v, l', r, h => by unfold rdP at h; simp at h
  | d + 1, left, b, v, l', r, h => by
    unfold rdP at h
    obtain ⟨⟨k, b1⟩, h1, h⟩ := bind_inv h
    dsimp only at h
    split at h
    · cases h
    rename_i hl
    split at h
    · simp only [Option.some.injEq, Prod.mk.injEq] at h; obtain ⟨-, rfl, -⟩ := h; omega
    split at h
    · obtain ⟨⟨n, b2⟩, h2, h⟩ := bind_inv h
      simp only [Option.some.injEq, Prod.mk.injEq] at h; obtain ⟨-, rfl, -⟩ := h; omega
    split at h
    · obtain ⟨⟨n, b2⟩, h2, h⟩ := bind_inv h
      simp only [Option.some.injEq, Prod.mk.injEq] at h; obtain ⟨-, rfl, -⟩ := h; omega
    split at h
    · obtain ⟨⟨n, b2⟩, h2, h⟩ := bind_inv h
      simp only [Option.some.injEq, Prod.mk.injEq] at h; obtain ⟨-, rfl, -⟩ := h; omega
    split at h
    · obtain ⟨⟨n, b2⟩, h2, h⟩ := bind_inv h
      simp only [Option.some.injEq, Prod.mk.injEq] at h; obtain ⟨-, rfl, -⟩ := h; omega
    split at h
    · obtain ⟨⟨n, b2⟩, h2, h⟩ := bind_inv h
      obtain ⟨⟨n', b3⟩, h3, h⟩ := bind_inv h
      dsimp only at h
      split at h
      · obtain ⟨⟨ks, ls, l2, b4⟩, h4, h⟩ := bind_inv h
        dsimp only at h
        split at h
        · simp only [Option.some.injEq, Prod.mk.injEq] at h; obtain ⟨-, rfl, -⟩ := h
          have := rdMany_left _ _ (fun left b x l' r' h => rdP_left d left b x l' r' h) _ _ _ _ _ _ _ h4 (by omega)
          omega
        · cases h
      · cases h
    · cases h
theorem rdP_len {d : Nat} {left : Int} {b : List UInt8} {v : V} {l' : Int} {r : List UInt8} (h : rdP d left b = some (v, l', r)) : r.length ≤ b.length := by
  have := (rdP_inv d left b v l' r h).1
  rw [this, List.length_append]; omega
theorem gT_lt {w most : Nat} {b r : List UInt8} {s : ByteArray} (h : gT w most b = some (s, r)) : r.length ≤ b.length := by
  have := (gT_inv h).1
  rw [this]; simp only [List.length_append]; omega

/-- The program's reader of values lies at qb, octet's at rb, its inner part at vb. -/
def PR (w : World) (qb rb vb : Nat) (left : Int) (b : List UInt8) (bad : Bool) : Prop :=
  Blk w qb [.pointer (some ⟨rb, 0, none⟩), .int .i64 left] ∧ RdP w rb vb ∧ RdS w vb b bad ∧ rb < qb
/-- What the reader writes. -/
def Two (qb vb : Nat) (k : Nat) : Prop := k = qb ∨ k = vb
section
variable {S : Nat → Prop} {w w' : World} {qb rb vb : Nat} {left : Int} {b : List UInt8} {bad : Bool}
theorem RdS.above (h : RdS w vb b bad) (hu : Upd S w w') (hS : ∀ k, S k → vb < k) : RdS w' vb b bad := by
  obtain ⟨bv, h1, h2, h3⟩ := h
  exact ⟨bv, h1.upd hu (fun e => by have := hS _ e; omega), h2.upd hu (fun k hk e => by have := hS _ e; have := h3 k hk; omega), h3⟩
theorem PR.q (h : PR w qb rb vb left b bad) : Blk w qb [.pointer (some ⟨rb, 0, none⟩), .int .i64 left] := h.1
theorem PR.p (h : PR w qb rb vb left b bad) : RdP w rb vb := h.2.1
theorem PR.s (h : PR w qb rb vb left b bad) : RdS w vb b bad := h.2.2.1
theorem PR.vq (h : PR w qb rb vb left b bad) : vb < qb := Nat.lt_trans h.2.1.2 h.2.2.2
theorem PR.lt (h : PR w qb rb vb left b bad) : qb < w.heap.size := h.1.lt
theorem PR.above (h : PR w qb rb vb left b bad) (hu : Upd S w w') (hS : ∀ k, S k → qb < k) : PR w' qb rb vb left b bad :=
  ⟨h.1.upd hu (fun e => by have := hS _ e; omega), ⟨h.2.1.1.upd hu (fun e => by have := hS _ e; have := h.2.2.2; omega), h.2.1.2⟩, h.2.2.1.above hu (fun k hk => by have := hS _ hk; have := h.vq; omega), h.2.2.2⟩
theorem PR.pure (h : PR w qb rb vb left b bad) (hB : Below w.heap.size w w') : PR w' qb rb vb left b bad :=
  ⟨h.1.pure hB, h.2.1.pure hB, h.2.2.1.pure hB, h.2.2.2⟩
theorem PR.turn {b' : List UInt8} {bad' : Bool} (h : PR w qb rb vb left b bad) (hs : RdS w' vb b' bad') (hu : Upd (Only vb) w w') : PR w' qb rb vb left b' bad' :=
  ⟨h.1.upd hu (fun e => by have := h.vq; unfold Only at e; omega), h.2.1.upd hu, hs, h.2.2.2⟩
theorem PR.setL (h : PR w qb rb vb left b bad) (l : Int) : PR (w.setCell ⟨qb, 1, none⟩ (.int .i64 l)) qb rb vb l b bad := by
  have hu : Upd (fun k => k = qb) w (w.setCell ⟨qb, 1, none⟩ (.int .i64 l)) := Upd.set (S := fun k => k = qb) (p := ⟨qb, 1, none⟩) rfl _
  refine ⟨h.1.set 1 (.int .i64 l), ⟨h.2.1.1.upd hu (fun e => Nat.ne_of_lt h.2.2.2 e), h.2.1.2⟩, h.2.2.1.above hu (fun k hk => by have := h.vq; omega), h.2.2.2⟩
end
abbrev wrongE : PanicEntry := { v := .iface 147 (.agg #[]), recovered := false }
set_option maxRecDepth 100000 in
theorem vmust_ok (w : World) (qb rb vb : Nat) (left : Int) (b : List UInt8) (h : PR w qb rb vb left b false) :
    Calls Tryz.prog 102 #[.pointer (some ⟨qb, 0, none⟩), .bool true] w fun e w' => e = .returned (.tuple #[]) ∧ w = w' := by
  have c0 := h.1.at 0 rfl
  go_enter Tryz.func102, Tryz.ntmps102
  go_wp2_with fail
  refine (bad_any _ rb vb b false h.2.1 h.2.2.1).mono ?_
  rintro e w1 ⟨rfl, rfl⟩
  go_wp2
  go_end0
  exact ⟨rfl, rfl⟩
set_option maxRecDepth 100000 in
theorem vmust_no (w : World) (qb rb vb : Nat) (left : Int) (b : List UInt8) (is bad : Bool) (h : PR w qb rb vb left b bad) (hn : is = false ∨ bad = true) :
    Calls Tryz.prog 102 #[.pointer (some ⟨qb, 0, none⟩), .bool is] w fun e w' => e = .panicked [wrongE] ∧ w = w' := by
  have c0 := h.1.at 0 rfl
  cases is
  · clear hn
    go_enter Tryz.func102, Tryz.ntmps102
    go_wp2
    exact ⟨rfl, rfl, rfl⟩
  · have hb : bad = true := by simpa using hn
    subst hb
    clear hn
    go_enter Tryz.func102, Tryz.ntmps102
    go_wp2_with fail
    refine (bad_any _ rb vb b true h.2.1 h.2.2.1).mono ?_
    rintro e w1 ⟨rfl, rfl⟩
    go_wp2
    exact ⟨rfl, rfl, rfl⟩
/-! ### octet's calls, as the reader of values makes them -/
theorem pnum_yes (w : World) (qb rb vb : Nat) (left : Int) (b : List UInt8) (wd n : Nat) (c : Int) (r : List UInt8) (h : PR w qb rb vb left b false) (hc : c = (wd : Int)) (hw : Wd wd) (hg : gN wd b = some (n, r)) (hL : Big b.length) :
    Calls Tryz.prog 39 #[.pointer (some ⟨rb, 0, none⟩), .int .i64 c] w fun e w' => e = .returned (.int .u64 n) ∧ PR w' qb rb vb left r false ∧ Upd (Only vb) w w' := by
  subst hc
  exact (num_yes w rb vb b wd n r h.p h.s hw hg hL).mono fun e w' ⟨a, b, c⟩ => ⟨a, h.turn b c, c⟩
theorem pnum_no (w : World) (qb rb vb : Nat) (left : Int) (b : List UInt8) (bad : Bool) (wd : Nat) (c : Int) (h : PR w qb rb vb left b bad) (hc : c = (wd : Int)) (hw : Wd wd) (hn : bad = true ∨ b.length < wd) :
    Calls Tryz.prog 39 #[.pointer (some ⟨rb, 0, none⟩), .int .i64 c] w fun e w' => e = .returned (.int .u64 0) ∧ PR w' qb rb vb left [] true ∧ Upd (Only vb) w w' := by
  subst hc
  exact (num_no w rb vb b bad wd h.p h.s hw hn).mono fun e w' ⟨a, b, c⟩ => ⟨a, h.turn b c, c⟩
theorem ptext_yes (w : World) (qb rb vb : Nat) (left : Int) (b : List UInt8) (wd most : Nat) (c m : Int) (s : ByteArray) (r : List UInt8) (h : PR w qb rb vb left b false) (hc : c = (wd : Int)) (hm : m = (most : Int)) (hw : wd = 1 ∨ wd = 2 ∨ wd = 4) (hM : most ≤ 4096) (hg : gT wd most b = some (s, r)) (hL : Big b.length) :
    Calls Tryz.prog 40 #[.pointer (some ⟨rb, 0, none⟩), .int .i64 c, .int .i64 m] w fun e w' => e = .returned (.string s) ∧ PR w' qb rb vb left r false ∧ Upd (Only vb) w w' := by
  subst hc hm
  exact (text_yes w rb vb b wd most s r h.p h.s hw hg hL (by unfold Big; omega)).mono fun e w' ⟨a, b, c⟩ => ⟨a, h.turn b c, c⟩
theorem ptext_no (w : World) (qb rb vb : Nat) (left : Int) (b : List UInt8) (bad : Bool) (wd most : Nat) (c m : Int) (h : PR w qb rb vb left b bad) (hc : c = (wd : Int)) (hm : m = (most : Int)) (hw : wd = 1 ∨ wd = 2 ∨ wd = 4) (hM : most ≤ 4096) (hg : bad = true ∨ gT wd most b = none) (hL : Big b.length) :
    Calls Tryz.prog 40 #[.pointer (some ⟨rb, 0, none⟩), .int .i64 c, .int .i64 m] w fun e w' => e = .returned (.string ⟨#[]⟩) ∧ PR w' qb rb vb left [] true ∧ Upd (Only vb) w w' := by
  subst hc hm
  exact (text_no w rb vb b bad wd most h.p h.s hw hg hL (by unfold Big; omega)).mono fun e w' ⟨a, b, c⟩ => ⟨a, h.turn b c, c⟩
theorem pleft (w : World) (qb rb vb : Nat) (left : Int) (b : List UInt8) (bad : Bool) (h : PR w qb rb vb left b bad) :
    Calls Tryz.prog 81 #[.pointer (some ⟨rb, 0, none⟩)] w fun e w' => e = .returned (.int .i64 b.length) ∧ w = w' := left_any w rb vb b bad h.p h.s
end Go.Proofs.YtflglpbjapgciaaGreatDoor

namespace Go.Proofs.YtflglpbjapgciaaGreatDoor
set_option linter.unusedSimpArgs false
set_option linter.unusedVariables false
open Go.RowKit
/-- What read leaves. -/
def ReadPost (w : World) (qb rb vb : Nat) : Option (V × Int × List UInt8) → Ending → World → Prop
  | none, e, w' => e = .panicked [wrongE] ∧ Upd (Two qb vb) w w'
  | some (x, left, r), e, w' => ∃ t : VT, e = .returned t.arg ∧ t.v = x ∧ Rd (fun k => w.heap.size ≤ k) w' t ∧ PR w' qb rb vb left r false ∧ Upd (Two qb vb) w w'
def Three (qb vb xb : Nat) (k : Nat) : Prop := k = qb ∨ k = vb ∨ k = xb
/-- What many leaves. -/
def ManyPost (w : World) (qb rb vb xb : Nat) (k : Int) : Option (List ByteArray × List V × Int × List UInt8) → Ending → World → Prop
  | none, e, w' => e = .panicked [wrongE] ∧ Upd (Three qb vb xb) w w'
  | some (ks, l, left, r), e, w' => ∃ (kv lv : Value) (L : List VT), e = .returned (.tuple #[]) ∧ Blk w' xb [.int .u8 k, .int .u64 0, .string ⟨#[]⟩, kv, lv] ∧ Own w.heap.size 9 1 strEnc w' kv ks ∧ Own w.heap.size 60 5 vEnc w' lv L ∧ L.map VT.v = l ∧
      (∀ x ∈ L, Rd (fun k => w.heap.size ≤ k) w' x) ∧ PR w' qb rb vb left r false ∧ Upd (Three qb vb xb) w w'
/-- What many reads, by what read reads. -/
def rdM (f : Int → List UInt8 → Option (V × Int × List UInt8)) (m : Bool) (left : Int) (b1 : List UInt8) : Option (List ByteArray × List V × Int × List UInt8) :=
  (gN 4 b1).bind fun (size, b2) => (gN 4 b2).bind fun (n, b3) =>
  if size ≤ b2.length ∧ n < 200 then (rdMany f m n left b3).bind fun (ks, l, left2, b4) => if b2.length - b4.length = size then some (ks, l, left2, b4) else none else none
/-- The contract of many at one depth. -/
def ManyOk (d : Nat) : Prop := ∀ (w : World) (qb rb vb xb : Nat) (left dp : Int) (b : List UInt8) (k : Int), PR w qb rb vb left b false → qb < xb → Blk w xb [.int .u8 k, .int .u64 0, .string ⟨#[]⟩, .slice none 0 0, .slice none 0 0] → k = 168 ∨ k = 169 → dp + d = 6 → d ≤ 5 → 0 ≤ left → left ≤ 200 → Big b.length →
  Calls Tryz.prog 113 #[.pointer (some ⟨qb, 0, none⟩), .pointer (some ⟨xb, 0, none⟩), .int .i64 dp] w (ManyPost w qb rb vb xb k (rdM (rdP d) (k == 168) left b))
/-- The contract of read at one depth. -/
def ReadOk (d : Nat) : Prop := ∀ (w : World) (qb rb vb : Nat) (left dp : Int) (b : List UInt8), PR w qb rb vb left b false → dp + d = 7 → d ≤ 6 → 0 ≤ left → left ≤ 200 → Big b.length →
  Calls Tryz.prog 101 #[.pointer (some ⟨qb, 0, none⟩), .int .i64 dp] w (ReadPost w qb rb vb (rdP d left b))
def ReadBad : Prop := ∀ (w : World) (qb rb vb : Nat) (left dp : Int) (b : List UInt8), PR w qb rb vb left b true → 0 ≤ left → left ≤ 200 → Big b.length →
  Calls Tryz.prog 101 #[.pointer (some ⟨qb, 0, none⟩), .int .i64 dp] w fun e w' => e = .panicked [wrongE] ∧ Upd (Two qb vb) w w'
theorem Blk.newK (w : World) (cs : List Value) (T : TypeId) (k : Nat) (h : w.heap.size = k) : Blk (w.alloc (.cells cs.toArray T)) k cs := h ▸ Blk.new w cs T
section
variable {S : Nat → Prop} {w w' : World} {B : Nat}
abbrev set5 (w : World) (B : Nat) (v0 v1 v2 v3 v4 : Value) : World := ((((w.setCell ⟨B, 0, none⟩ v0).setCell ⟨B, 1, none⟩ v1).setCell ⟨B, 2, none⟩ v2).setCell ⟨B, 3, none⟩ v3).setCell ⟨B, 4, none⟩ v4
theorem Upd.at5 (w : World) (B : Nat) (v0 v1 v2 v3 v4 : Value) : Upd (fun k => k = B) w (set5 w B v0 v1 v2 v3 v4) := by
  have s := fun (u : World) (i : Nat) (v : Value) => Upd.set (S := fun k => k = B) (w := u) (p := ⟨B, i, none⟩) rfl v
  exact ((((s _ _ _).trans (s _ _ _) (fun _ h _ => h)).trans (s _ _ _) (fun _ h _ => h)).trans (s _ _ _) (fun _ h _ => h)).trans (s _ _ _) (fun _ h _ => h)
theorem Upd.fresh5 (h : Upd S w w') (hB : w.heap.size ≤ B) (v0 v1 v2 v3 v4 : Value) : Upd S w (set5 w' B v0 v1 v2 v3 v4) := h.trans (Upd.at5 w' B v0 v1 v2 v3 v4) (fun i e hi => by omega)
theorem PR.fresh5 {qb rb vb : Nat} {left : Int} {b : List UInt8} {bad : Bool} (h : PR w qb rb vb left b bad) (hB : qb < B) (v0 v1 v2 v3 v4 : Value) : PR (set5 w B v0 v1 v2 v3 v4) qb rb vb left b bad := h.above (Upd.at5 w B v0 v1 v2 v3 v4) (fun k e => by omega)
theorem Blk.fresh5 {c0 c1 c2 c3 c4 : Value} (h : Blk w B [c0, c1, c2, c3, c4]) (v0 v1 v2 v3 v4 : Value) : Blk (set5 w B v0 v1 v2 v3 v4) B [v0, v1, v2, v3, v4] := ((((h.set 0 v0).set 1 v1).set 2 v2).set 3 v3).set 4 v4
end
theorem Rd.leaf {P : Nat → Prop} {w : World} {k n : Int} {s : ByteArray} (h0 : 0 ≤ n) (h1 : n < 18446744073709551616) (h2 : 0 ≤ k) (h3 : k < 256) : Rd P w (.mk k n s (.slice none 0 0) (.slice none 0 0) [] []) :=
  .mk (Slc.nil _ _ _) (fun e => absurd rfl e) (Slc.nil _ _ _) (fun e => absurd rfl e) (fun x hx => absurd hx (by simp [VT.l])) h0 h1 h2 h3
theorem gN_none {w : Nat} {b : List UInt8} (h : b.length < w) : gN w b = none := if_neg (by omega)
theorem gN_or (w : Nat) (b : List UInt8) : b.length < w ∨ ∃ n r, gN w b = some (n, r) := by
  by_cases h : w ≤ b.length
  · exact .inr ⟨_, _, if_pos h⟩
  · exact .inl (by omega)
theorem gN8 {n : Nat} {b r : List UInt8} (h : gN 1 b = some (n, r)) : n < 256 := (gN_inv h).2
theorem rdM_bind (f : Int → List UInt8 → Option (V × Int × List UInt8)) (m : Bool) (k left : Int) (b1 : List UInt8) :
    ((gN 4 b1).bind fun (x : Nat × List UInt8) => (gN 4 x.2).bind fun (y : Nat × List UInt8) =>
      if x.1 ≤ x.2.length ∧ y.1 < 200 then
        (rdMany f m y.1 left y.2).bind fun (z : List ByteArray × List V × Int × List UInt8) => if x.2.length - z.2.2.2.length = x.1 then some (V.mk k 0 ByteArray.empty z.1 z.2.1, z.2.2.1, z.2.2.2) else none
      else none) = (rdM f m left b1).bind fun (z : List ByteArray × List V × Int × List UInt8) => some (V.mk k 0 ByteArray.empty z.1 z.2.1, z.2.2.1, z.2.2.2) := by
  unfold rdM
  rcases gN 4 b1 with _ | ⟨size, b2⟩
  · rfl
  rw [Option.bind_some, Option.bind_some]
  dsimp only
  rcases gN 4 b2 with _ | ⟨n, b3⟩
  · rfl
  rw [Option.bind_some, Option.bind_some]
  dsimp only
  split
  · rcases rdMany f m n left b3 with _ | ⟨ks, l, left2, b4⟩
    · rfl
    rw [Option.bind_some, Option.bind_some]
    dsimp only
    split <;> rfl
  · rfl
theorem Upd.two {qb vb : Nat} {a b c : World} (h : Upd (Two qb vb) a b) (k : Upd (Two qb vb) b c) : Upd (Two qb vb) a c := h.trans k (fun _ h _ => h)
theorem Upd.only_two {qb vb : Nat} {a b : World} (h : Upd (Only vb) a b) : Upd (Two qb vb) a b := h.mono (fun k hk _ => Or.inr hk)

set_option maxRecDepth 100000 in
set_option maxHeartbeats 1600000 in
theorem pread_bad : ReadBad := by
  intro w qb rb vb left dp b h hl0 hl1 hL
  have hq := h.lt
  have hs0 := h.setL (left - 1)
  have hb0 : Below (w.setCell ⟨qb, 1, none⟩ (.int .i64 (left - 1))).heap.size (w.setCell ⟨qb, 1, none⟩ (.int .i64 (left - 1))) ((w.setCell ⟨qb, 1, none⟩ (.int .i64 (left - 1))).alloc (.cells #[.int .u8 0, .int .u64 0, .string ⟨#[]⟩, .slice none 0 0, .slice none 0 0] 60)) := (Below.refl _ _).alloc (Nat.le_refl _) _
  have a1 := Blk.newK (w.setCell ⟨qb, 1, none⟩ (.int .i64 (left - 1))) [.int .u8 0, .int .u64 0, .string ⟨#[]⟩, .slice none 0 0, .slice none 0 0] 60 w.heap.size (by simp)
  have h1 := hs0.pure hb0
  have u1 : Upd (Two qb vb) w ((w.setCell ⟨qb, 1, none⟩ (.int .i64 (left - 1))).alloc (.cells #[.int .u8 0, .int .u64 0, .string ⟨#[]⟩, .slice none 0 0, .slice none 0 0] 60)) := (Upd.set (S := Two qb vb) (p := ⟨qb, 1, none⟩) (Or.inl rfl) _).trans (Upd.of_below hb0) (fun _ h _ => h)
  have c0 := h.q.at 0 rfl; have c1 := h.q.at 1 rfl; have z1 := h.q.frozen 1
  have d0 := h1.q.at 0 rfl
  by_cases hn1 : 0 ≤ left - 1
  · have hn2 : 1 ≤ left := by omega
    by_cases hd : dp ≤ 6
    all_goals
      go_enter Tryz.func101, Tryz.ntmps101
      go_wp2_with (first | (go_at_call 39; (with_reducible refine (pnum_no _ qb rb vb (left - 1) b true 1 1 h1 rfl (by unfold Wd; omega) (Or.inl rfl)).mono ?_); rintro e w1 ⟨rfl, p1, hu1⟩; have a2 := a1.upd hu1 (by have := h.vq; unfold Only; omega); have u2 := u1.two (hu1.only_two (qb := qb)); have hb1 := (Below.refl w1.heap.size w1).alloc (Nat.le_refl _) (.cells #[.int .u8 0, .int .u64 0, .string ⟨#[]⟩, .slice none 0 0, .slice none 0 0] 60); have p2 := p1.pure hb1; have a3 := a2.alloc (.cells #[.int .u8 0, .int .u64 0, .string ⟨#[]⟩, .slice none 0 0, .slice none 0 0] 60); have x2 := Blk.new w1 [.int .u8 0, .int .u64 0, .string ⟨#[]⟩, .slice none 0 0, .slice none 0 0] 60; have u3 := u2.two (Upd.of_below hb1); have e0 := p2.q.at 0 rfl; have e1 := p2.q.at 1 rfl; have f0 := x2.at 0 rfl; have f1 := x2.at 1 rfl; have f2 := x2.at 2 rfl; have f3 := x2.at 3 rfl; have f4 := x2.at 4 rfl; have y0 := x2.frozen 0; have y1 := x2.frozen 1; have y2 := x2.frozen 2) | (go_at_call 102; (with_reducible refine (vmust_no _ qb rb vb (left - 1) [] _ true p2 (Or.inr rfl)).mono ?_); rintro e _ ⟨rfl, rfl⟩))
      exact ⟨rfl, rfl, u3⟩
  · have hn2 : ¬ 1 ≤ left := by omega
    go_enter Tryz.func101, Tryz.ntmps101
    go_wp2_with (first | (go_at_call 39; (with_reducible refine (pnum_no _ qb rb vb (left - 1) b true 1 1 h1 rfl (by unfold Wd; omega) (Or.inl rfl)).mono ?_); rintro e w1 ⟨rfl, p1, hu1⟩; have a2 := a1.upd hu1 (by have := h.vq; unfold Only; omega); have u2 := u1.two (hu1.only_two (qb := qb)); have hb1 := (Below.refl w1.heap.size w1).alloc (Nat.le_refl _) (.cells #[.int .u8 0, .int .u64 0, .string ⟨#[]⟩, .slice none 0 0, .slice none 0 0] 60); have p2 := p1.pure hb1; have a3 := a2.alloc (.cells #[.int .u8 0, .int .u64 0, .string ⟨#[]⟩, .slice none 0 0, .slice none 0 0] 60); have x2 := Blk.new w1 [.int .u8 0, .int .u64 0, .string ⟨#[]⟩, .slice none 0 0, .slice none 0 0] 60; have u3 := u2.two (Upd.of_below hb1); have e0 := p2.q.at 0 rfl; have e1 := p2.q.at 1 rfl; have f0 := x2.at 0 rfl; have f1 := x2.at 1 rfl; have f2 := x2.at 2 rfl; have f3 := x2.at 3 rfl; have f4 := x2.at 4 rfl; have y0 := x2.frozen 0; have y1 := x2.frozen 1; have y2 := x2.frozen 2) | (go_at_call 102; (with_reducible refine (vmust_no _ qb rb vb (left - 1) [] _ true p2 (Or.inr rfl)).mono ?_); rintro e _ ⟨rfl, rfl⟩))
    exact ⟨rfl, rfl, u3⟩

set_option maxRecDepth 100000 in
set_option maxHeartbeats 12800000 in
theorem pread_any (d : Nat) (hM : ∀ d', d = d' + 1 → ManyOk d') : ReadOk d := by
  intro w qb rb vb left dp b h hd hd6 hl0 hl1 hL
  have hq := h.lt
  have hs0 := h.setL (left - 1)
  have hb0 : Below (w.setCell ⟨qb, 1, none⟩ (.int .i64 (left - 1))).heap.size (w.setCell ⟨qb, 1, none⟩ (.int .i64 (left - 1))) ((w.setCell ⟨qb, 1, none⟩ (.int .i64 (left - 1))).alloc (.cells #[.int .u8 0, .int .u64 0, .string ⟨#[]⟩, .slice none 0 0, .slice none 0 0] 60)) := (Below.refl _ _).alloc (Nat.le_refl _) _
  have a1 := Blk.newK (w.setCell ⟨qb, 1, none⟩ (.int .i64 (left - 1))) [.int .u8 0, .int .u64 0, .string ⟨#[]⟩, .slice none 0 0, .slice none 0 0] 60 w.heap.size (by simp)
  have h1 := hs0.pure hb0
  have u1 : Upd (Two qb vb) w ((w.setCell ⟨qb, 1, none⟩ (.int .i64 (left - 1))).alloc (.cells #[.int .u8 0, .int .u64 0, .string ⟨#[]⟩, .slice none 0 0, .slice none 0 0] 60)) := (Upd.set (S := Two qb vb) (p := ⟨qb, 1, none⟩) (Or.inl rfl) _).trans (Upd.of_below hb0) (fun _ h _ => h)
  have c0 := h.q.at 0 rfl; have c1 := h.q.at 1 rfl; have z1 := h.q.frozen 1
  have d0 := h1.q.at 0 rfl
  have hL' := hL
  have hvq := h.vq
  rcases gN_or 1 b with hno' | ⟨k, b1, hg'⟩
  · have hno := Lib.hid hno'
    have hr := Lib.hid (show rdP d left b = none by cases d with
      | zero => rfl
      | succ d => unfold rdP; rw [gN_none hno']; rfl)
    clear hno'
    by_cases hn1 : 0 ≤ left - 1
    · have hn2 : 1 ≤ left := by omega
      by_cases hd' : dp ≤ 6
      all_goals
        go_enter Tryz.func101, Tryz.ntmps101
        go_wp2_with (first | (go_at_call 39; (with_reducible refine (pnum_no _ qb rb vb (left - 1) b false 1 1 h1 rfl (by unfold Wd; omega) (Or.inr hno.out)).mono ?_); rintro e w1 ⟨rfl, p1, hu1⟩; have a2 := a1.upd hu1 (by have := h.vq; unfold Only; omega); have u2 := u1.two (hu1.only_two (qb := qb)); have hb1 := (Below.refl w1.heap.size w1).alloc (Nat.le_refl _) (.cells #[.int .u8 0, .int .u64 0, .string ⟨#[]⟩, .slice none 0 0, .slice none 0 0] 60); have p2 := p1.pure hb1; have a3 := a2.alloc (.cells #[.int .u8 0, .int .u64 0, .string ⟨#[]⟩, .slice none 0 0, .slice none 0 0] 60); have x2 := Blk.new w1 [.int .u8 0, .int .u64 0, .string ⟨#[]⟩, .slice none 0 0, .slice none 0 0] 60; have u3 := u2.two (Upd.of_below hb1); have e0 := p2.q.at 0 rfl; have e1 := p2.q.at 1 rfl; have f0 := x2.at 0 rfl; have f1 := x2.at 1 rfl; have f2 := x2.at 2 rfl; have f3 := x2.at 3 rfl; have f4 := x2.at 4 rfl; have y0 := x2.frozen 0; have y1 := x2.frozen 1; have y2 := x2.frozen 2) | (go_at_call 102; (with_reducible refine (vmust_no _ qb rb vb (left - 1) _ _ true p2 (Or.inr rfl)).mono ?_); rintro e _ ⟨rfl, rfl⟩))
        rw [hr.out]; exact ⟨rfl, rfl, u3⟩
    · have hn2 : ¬ 1 ≤ left := by omega
      go_enter Tryz.func101, Tryz.ntmps101
      go_wp2_with (first | (go_at_call 39; (with_reducible refine (pnum_no _ qb rb vb (left - 1) b false 1 1 h1 rfl (by unfold Wd; omega) (Or.inr hno.out)).mono ?_); rintro e w1 ⟨rfl, p1, hu1⟩; have a2 := a1.upd hu1 (by have := h.vq; unfold Only; omega); have u2 := u1.two (hu1.only_two (qb := qb)); have hb1 := (Below.refl w1.heap.size w1).alloc (Nat.le_refl _) (.cells #[.int .u8 0, .int .u64 0, .string ⟨#[]⟩, .slice none 0 0, .slice none 0 0] 60); have p2 := p1.pure hb1; have a3 := a2.alloc (.cells #[.int .u8 0, .int .u64 0, .string ⟨#[]⟩, .slice none 0 0, .slice none 0 0] 60); have x2 := Blk.new w1 [.int .u8 0, .int .u64 0, .string ⟨#[]⟩, .slice none 0 0, .slice none 0 0] 60; have u3 := u2.two (Upd.of_below hb1); have e0 := p2.q.at 0 rfl; have e1 := p2.q.at 1 rfl; have f0 := x2.at 0 rfl; have f1 := x2.at 1 rfl; have f2 := x2.at 2 rfl; have f3 := x2.at 3 rfl; have f4 := x2.at 4 rfl; have y0 := x2.frozen 0; have y1 := x2.frozen 1; have y2 := x2.frozen 2) | (go_at_call 102; (with_reducible refine (vmust_no _ qb rb vb (left - 1) _ _ true p2 (Or.inr rfl)).mono ?_); rintro e _ ⟨rfl, rfl⟩))
      rw [hr.out]; exact ⟨rfl, rfl, u3⟩
  have hg := Lib.hid hg'
  have hk8 : k < 256 := gN8 hg'
  have hL1 : Big b1.length := hL.mono (gN_lt hg').2.1
  have hkw : IntKind.u8.wrap (k : Int) = (k : Int) := by
    have e : IntKind.u8.wrap (k : Int) = (k : Int) % 256 := rfl
    rw [e]; omega
  by_cases hn1 : 0 ≤ left - 1
  rotate_left 1
  · have hn2 : ¬ 1 ≤ left := by omega
    have hr := Lib.hid (show rdP d left b = none by cases d with
      | zero => rfl
      | succ d => unfold rdP; rw [hg', Option.bind_some]; exact if_pos (by omega))
    clear hg'
    go_enter Tryz.func101, Tryz.ntmps101
    go_wp2_with (first | (go_at_call 39; (with_reducible refine (pnum_yes _ qb rb vb (left - 1) b 1 k 1 b1 h1 rfl (by unfold Wd; omega) hg.out hL).mono ?_); rintro e w1 ⟨rfl, p1, hu1⟩; have a2 := a1.upd hu1 (by have := h.vq; unfold Only; omega); have u2 := u1.two (hu1.only_two (qb := qb)); have hb1 := (Below.refl w1.heap.size w1).alloc (Nat.le_refl _) (.cells #[.int .u8 k, .int .u64 0, .string ⟨#[]⟩, .slice none 0 0, .slice none 0 0] 60); have p2 := p1.pure hb1; have a3 := a2.alloc (.cells #[.int .u8 k, .int .u64 0, .string ⟨#[]⟩, .slice none 0 0, .slice none 0 0] 60); have x2 := Blk.new w1 [.int .u8 k, .int .u64 0, .string ⟨#[]⟩, .slice none 0 0, .slice none 0 0] 60; have u3 := u2.two (Upd.of_below hb1); have e0 := p2.q.at 0 rfl; have e1 := p2.q.at 1 rfl; have f0 := x2.at 0 rfl; have f1 := x2.at 1 rfl; have f2 := x2.at 2 rfl; have f3 := x2.at 3 rfl; have f4 := x2.at 4 rfl; have y0 := x2.frozen 0; have y1 := x2.frozen 1; have y2 := x2.frozen 2) | (go_at_call 102; (with_reducible refine (vmust_no _ qb rb vb (left - 1) _ _ false p2 (Or.inl rfl)).mono ?_); rintro e _ ⟨rfl, rfl⟩))
    rw [hr.out]; exact ⟨rfl, rfl, u3⟩
  have hn2 : 1 ≤ left := by omega
  rcases d with _ | d
  · obtain rfl : dp = 7 := by omega
    have hr := Lib.hid (show rdP 0 left b = none from rfl)
    clear hg'
    go_enter Tryz.func101, Tryz.ntmps101
    go_wp2_with (first | (go_at_call 39; (with_reducible refine (pnum_yes _ qb rb vb (left - 1) b 1 k 1 b1 h1 rfl (by unfold Wd; omega) hg.out hL).mono ?_); rintro e w1 ⟨rfl, p1, hu1⟩; have a2 := a1.upd hu1 (by have := h.vq; unfold Only; omega); have u2 := u1.two (hu1.only_two (qb := qb)); have hb1 := (Below.refl w1.heap.size w1).alloc (Nat.le_refl _) (.cells #[.int .u8 k, .int .u64 0, .string ⟨#[]⟩, .slice none 0 0, .slice none 0 0] 60); have p2 := p1.pure hb1; have a3 := a2.alloc (.cells #[.int .u8 k, .int .u64 0, .string ⟨#[]⟩, .slice none 0 0, .slice none 0 0] 60); have x2 := Blk.new w1 [.int .u8 k, .int .u64 0, .string ⟨#[]⟩, .slice none 0 0, .slice none 0 0] 60; have u3 := u2.two (Upd.of_below hb1); have e0 := p2.q.at 0 rfl; have e1 := p2.q.at 1 rfl; have f0 := x2.at 0 rfl; have f1 := x2.at 1 rfl; have f2 := x2.at 2 rfl; have f3 := x2.at 3 rfl; have f4 := x2.at 4 rfl; have y0 := x2.frozen 0; have y1 := x2.frozen 1; have y2 := x2.frozen 2) | (go_at_call 102; (with_reducible refine (vmust_no _ qb rb vb (left - 1) _ _ false p2 (Or.inl rfl)).mono ?_); rintro e _ ⟨rfl, rfl⟩))
    rw [hr.out]; exact ⟨rfl, rfl, u3⟩
  have hd' : dp ≤ 6 := by omega
  have hMany := Lib.hid (hM d rfl)
  clear hM
  by_cases hk240 : k = 240
  · subst hk240
    clear hkw
    have hr' : rdP (d + 1) left b = some (.mk 240 0 ByteArray.empty [] [], left - 1, b1) := by
      unfold rdP; rw [hg', Option.bind_some]; show (if left - 1 < 0 then none else _) = _; rw [if_neg (by omega)]; first | rfl | exact rdM_bind _ _ _ _ _
    have hkw : IntKind.u8.wrap (240 : Int) = 240 := rfl
    clear hg'
    have hr := Lib.hid hr'
    clear hr'
    go_enter Tryz.func101, Tryz.ntmps101
    go_wp2_with (first | (go_at_call 39; (with_reducible refine (pnum_yes _ qb rb vb (left - 1) b 1 240 1 b1 h1 rfl (by unfold Wd; omega) hg.out hL).mono ?_); rintro e w1 ⟨rfl, p1, hu1⟩; have a2 := a1.upd hu1 (by have := h.vq; unfold Only; omega); have u2 := u1.two (hu1.only_two (qb := qb)); have hb1 := (Below.refl w1.heap.size w1).alloc (Nat.le_refl _) (.cells #[.int .u8 240, .int .u64 0, .string ⟨#[]⟩, .slice none 0 0, .slice none 0 0] 60); have p2 := p1.pure hb1; have a3 := a2.alloc (.cells #[.int .u8 240, .int .u64 0, .string ⟨#[]⟩, .slice none 0 0, .slice none 0 0] 60); have x2 := Blk.new w1 [.int .u8 240, .int .u64 0, .string ⟨#[]⟩, .slice none 0 0, .slice none 0 0] 60; have u3 := u2.two (Upd.of_below hb1); have e0 := p2.q.at 0 rfl; have e1 := p2.q.at 1 rfl; have f0 := x2.at 0 rfl; have f1 := x2.at 1 rfl; have f2 := x2.at 2 rfl; have f3 := x2.at 3 rfl; have f4 := x2.at 4 rfl; have e0x := p2.q.at 0 rfl; have e1x := p2.q.at 1 rfl; have f0x := x2.at 0 rfl; have t0x := a3.frozen 0; have s0x := a3.at 0 rfl; have f1x := x2.at 1 rfl; have t1x := a3.frozen 1; have s1x := a3.at 1 rfl; have f2x := x2.at 2 rfl; have t2x := a3.frozen 2; have s2x := a3.at 2 rfl; have f3x := x2.at 3 rfl; have t3x := a3.frozen 3; have s3x := a3.at 3 rfl; have f4x := x2.at 4 rfl; have t4x := a3.frozen 4; have s4x := a3.at 4 rfl; have y0 := x2.frozen 0; have y1 := x2.frozen 1; have y2 := x2.frozen 2) | (go_at_call 102; (with_reducible refine (vmust_ok _ qb rb vb (left - 1) _ p2).mono ?_); rintro e _ ⟨rfl, rfl⟩))
    have aF := a3.fresh5 (.int .u8 240) (.int .u64 0) (.string ⟨#[]⟩) (.slice none 0 0) (.slice none 0 0)
    have k0 := aF.at 0 rfl; have k1 := aF.at 1 rfl; have k2 := aF.at 2 rfl; have k3 := aF.at 3 rfl; have k4 := aF.at 4 rfl
    refine bodyPost_ret (by simp [results, Tryz.results101, go_sem, k0, k1, k2, k3, k4]; rfl) rfl ?_
    rw [hr.out]
    exact ⟨.mk 240 0 ⟨#[]⟩ (.slice none 0 0) (.slice none 0 0) [] [], rfl, rfl, Rd.leaf (by omega) (by omega) (by omega) (by omega), p2.fresh5 hq (.int .u8 240) (.int .u64 0) (.string ⟨#[]⟩) (.slice none 0 0) (.slice none 0 0), u3.fresh5 (Nat.le_refl _) (.int .u8 240) (.int .u64 0) (.string ⟨#[]⟩) (.slice none 0 0) (.slice none 0 0)⟩
  by_cases hk8 : k = 8
  · subst hk8
    clear hkw
    have hr' : rdP (d + 1) left b = (gN 1 b1).bind fun (x : Nat × List UInt8) => some (.mk 8 x.1 ByteArray.empty [] [], left - 1, x.2) := by
      unfold rdP; rw [hg', Option.bind_some]; show (if left - 1 < 0 then none else _) = _; rw [if_neg (by omega)]; first | rfl | exact rdM_bind _ _ _ _ _
    have hkw : IntKind.u8.wrap (8 : Int) = 8 := rfl
    clear hg'
    rcases gN_or 1 b1 with hno' | ⟨n, b2, hg2'⟩
    · rw [gN_none hno'] at hr'
      have hr := Lib.hid hr'; have hno := Lib.hid hno'
      clear hr' hno'
      go_enter Tryz.func101, Tryz.ntmps101
      go_wp2_with (first | (go_at_call 39; (with_reducible refine (pnum_yes _ qb rb vb (left - 1) b 1 8 1 b1 h1 rfl (by unfold Wd; omega) hg.out hL).mono ?_); rintro e w1 ⟨rfl, p1, hu1⟩; have a2 := a1.upd hu1 (by have := h.vq; unfold Only; omega); have u2 := u1.two (hu1.only_two (qb := qb)); have hb1 := (Below.refl w1.heap.size w1).alloc (Nat.le_refl _) (.cells #[.int .u8 8, .int .u64 0, .string ⟨#[]⟩, .slice none 0 0, .slice none 0 0] 60); have p2 := p1.pure hb1; have a3 := a2.alloc (.cells #[.int .u8 8, .int .u64 0, .string ⟨#[]⟩, .slice none 0 0, .slice none 0 0] 60); have x2 := Blk.new w1 [.int .u8 8, .int .u64 0, .string ⟨#[]⟩, .slice none 0 0, .slice none 0 0] 60; have u3 := u2.two (Upd.of_below hb1); have e0 := p2.q.at 0 rfl; have e1 := p2.q.at 1 rfl; have f0 := x2.at 0 rfl; have f1 := x2.at 1 rfl; have f2 := x2.at 2 rfl; have f3 := x2.at 3 rfl; have f4 := x2.at 4 rfl; have y0 := x2.frozen 0; have y1 := x2.frozen 1; have y2 := x2.frozen 2) | (go_at_call 102; (with_reducible refine (vmust_ok _ qb rb vb (left - 1) _ p2).mono ?_); rintro e _ ⟨rfl, rfl⟩) | (go_at_call 39; (with_reducible refine (pnum_no _ qb rb vb (left - 1) b1 false 1 1 p2 rfl (by unfold Wd; omega) (Or.inr hno.out)).mono ?_); rintro e w3 ⟨rfl, p3, hu3⟩; have hx0 := Lib.hid (show w.heap.size < w1.heap.size by have := a2.lt; omega); have hx1 := Lib.hid (show qb < w1.heap.size by have := hx0.out; omega); have x3 := x2.upd hu3 (fun e => by have := hx1.out; unfold Only at e; omega); have a4 := a3.upd hu3 (fun e => by unfold Only at e; omega); have u4 := u3.two (hu3.only_two (qb := qb)); have g1 := x3.frozen 1; have j1 := x3.at 1 rfl; have hs4 : Upd (fun k => k = w1.heap.size) w3 (w3.setCell ⟨w1.heap.size, 1, none⟩ (.int .u64 0)) := Upd.set (S := fun k => k = w1.heap.size) (p := ⟨w1.heap.size, 1, none⟩) rfl _; have p4 := p3.above hs4 (fun k e => by have := hx1.out; omega); have a5 := a4.upd hs4 (fun e => by have := hx0.out; omega); have x4 := x3.set 1 (.int .u64 0); have u5 : Upd (Two qb vb) w (w3.setCell ⟨w1.heap.size, 1, none⟩ (.int .u64 0)) := u4.trans hs4 (fun i e hi => by have := hx0.out; omega); have e04 := p4.q.at 0 rfl; have e14 := p4.q.at 1 rfl; have f04 := x4.at 0 rfl; have t04 := a5.frozen 0; have s04 := a5.at 0 rfl; have f14 := x4.at 1 rfl; have t14 := a5.frozen 1; have s14 := a5.at 1 rfl; have f24 := x4.at 2 rfl; have t24 := a5.frozen 2; have s24 := a5.at 2 rfl; have f34 := x4.at 3 rfl; have t34 := a5.frozen 3; have s34 := a5.at 3 rfl; have f44 := x4.at 4 rfl; have t44 := a5.frozen 4; have s44 := a5.at 4 rfl) | (go_at_call 102; (with_reducible refine (vmust_no _ qb rb vb (left - 1) _ _ true p4 (Or.inr rfl)).mono ?_); rintro e _ ⟨rfl, rfl⟩))
      rw [hr.out]; exact ⟨rfl, rfl, u5⟩
    · rw [hg2', Option.bind_some] at hr'
      have hr := Lib.hid hr'; have hg2 := Lib.hid hg2'
      have hnb := Lib.hid (gN_lt hg2').1
      clear hr' hg2'
      go_enter Tryz.func101, Tryz.ntmps101
      go_wp2_with (first | (go_at_call 39; (with_reducible refine (pnum_yes _ qb rb vb (left - 1) b 1 8 1 b1 h1 rfl (by unfold Wd; omega) hg.out hL).mono ?_); rintro e w1 ⟨rfl, p1, hu1⟩; have a2 := a1.upd hu1 (by have := h.vq; unfold Only; omega); have u2 := u1.two (hu1.only_two (qb := qb)); have hb1 := (Below.refl w1.heap.size w1).alloc (Nat.le_refl _) (.cells #[.int .u8 8, .int .u64 0, .string ⟨#[]⟩, .slice none 0 0, .slice none 0 0] 60); have p2 := p1.pure hb1; have a3 := a2.alloc (.cells #[.int .u8 8, .int .u64 0, .string ⟨#[]⟩, .slice none 0 0, .slice none 0 0] 60); have x2 := Blk.new w1 [.int .u8 8, .int .u64 0, .string ⟨#[]⟩, .slice none 0 0, .slice none 0 0] 60; have u3 := u2.two (Upd.of_below hb1); have e0 := p2.q.at 0 rfl; have e1 := p2.q.at 1 rfl; have f0 := x2.at 0 rfl; have f1 := x2.at 1 rfl; have f2 := x2.at 2 rfl; have f3 := x2.at 3 rfl; have f4 := x2.at 4 rfl; have y0 := x2.frozen 0; have y1 := x2.frozen 1; have y2 := x2.frozen 2) | (go_at_call 102; (with_reducible refine (vmust_ok _ qb rb vb (left - 1) _ p2).mono ?_); rintro e _ ⟨rfl, rfl⟩) | (go_at_call 39; (with_reducible refine (pnum_yes _ qb rb vb (left - 1) b1 1 n 1 b2 p2 rfl (by unfold Wd; omega) hg2.out hL1).mono ?_); rintro e w3 ⟨rfl, p3, hu3⟩; have hx0 := Lib.hid (show w.heap.size < w1.heap.size by have := a2.lt; omega); have hx1 := Lib.hid (show qb < w1.heap.size by have := hx0.out; omega); have x3 := x2.upd hu3 (fun e => by have := hx1.out; unfold Only at e; omega); have a4 := a3.upd hu3 (fun e => by unfold Only at e; omega); have u4 := u3.two (hu3.only_two (qb := qb)); have g1 := x3.frozen 1; have j1 := x3.at 1 rfl; have hs4 : Upd (fun k => k = w1.heap.size) w3 (w3.setCell ⟨w1.heap.size, 1, none⟩ (.int .u64 n)) := Upd.set (S := fun k => k = w1.heap.size) (p := ⟨w1.heap.size, 1, none⟩) rfl _; have p4 := p3.above hs4 (fun k e => by have := hx1.out; omega); have a5 := a4.upd hs4 (fun e => by have := hx0.out; omega); have x4 := x3.set 1 (.int .u64 n); have u5 : Upd (Two qb vb) w (w3.setCell ⟨w1.heap.size, 1, none⟩ (.int .u64 n)) := u4.trans hs4 (fun i e hi => by have := hx0.out; omega); have e04 := p4.q.at 0 rfl; have e14 := p4.q.at 1 rfl; have f04 := x4.at 0 rfl; have t04 := a5.frozen 0; have s04 := a5.at 0 rfl; have f14 := x4.at 1 rfl; have t14 := a5.frozen 1; have s14 := a5.at 1 rfl; have f24 := x4.at 2 rfl; have t24 := a5.frozen 2; have s24 := a5.at 2 rfl; have f34 := x4.at 3 rfl; have t34 := a5.frozen 3; have s34 := a5.at 3 rfl; have f44 := x4.at 4 rfl; have t44 := a5.frozen 4; have s44 := a5.at 4 rfl) | (go_at_call 102; (with_reducible refine (vmust_ok _ qb rb vb (left - 1) _ p4).mono ?_); rintro e _ ⟨rfl, rfl⟩))
      have aF := a5.fresh5 (.int .u8 8) (.int .u64 n) (.string ⟨#[]⟩) (.slice none 0 0) (.slice none 0 0)
      have k0 := aF.at 0 rfl; have k1 := aF.at 1 rfl; have k2 := aF.at 2 rfl; have k3 := aF.at 3 rfl; have k4 := aF.at 4 rfl
      refine bodyPost_ret (by simp [results, Tryz.results101, go_sem, k0, k1, k2, k3, k4]; rfl) rfl ?_
      rw [hr.out]
      exact ⟨.mk 8 n ⟨#[]⟩ (.slice none 0 0) (.slice none 0 0) [] [], rfl, rfl, Rd.leaf (by omega) (by have := hnb.out; omega) (by omega) (by omega), p4.fresh5 hq (.int .u8 8) (.int .u64 n) (.string ⟨#[]⟩) (.slice none 0 0) (.slice none 0 0), u5.fresh5 (Nat.le_refl _) (.int .u8 8) (.int .u64 n) (.string ⟨#[]⟩) (.slice none 0 0) (.slice none 0 0)⟩
  by_cases hk2 : k = 2
  · subst hk2
    clear hkw
    have hr' : rdP (d + 1) left b = (gN 1 b1).bind fun (x : Nat × List UInt8) => some (.mk 2 x.1 ByteArray.empty [] [], left - 1, x.2) := by
      unfold rdP; rw [hg', Option.bind_some]; show (if left - 1 < 0 then none else _) = _; rw [if_neg (by omega)]; first | rfl | exact rdM_bind _ _ _ _ _
    have hkw : IntKind.u8.wrap (2 : Int) = 2 := rfl
    clear hg'
    rcases gN_or 1 b1 with hno' | ⟨n, b2, hg2'⟩
    · rw [gN_none hno'] at hr'
      have hr := Lib.hid hr'; have hno := Lib.hid hno'
      clear hr' hno'
      go_enter Tryz.func101, Tryz.ntmps101
      go_wp2_with (first | (go_at_call 39; (with_reducible refine (pnum_yes _ qb rb vb (left - 1) b 1 2 1 b1 h1 rfl (by unfold Wd; omega) hg.out hL).mono ?_); rintro e w1 ⟨rfl, p1, hu1⟩; have a2 := a1.upd hu1 (by have := h.vq; unfold Only; omega); have u2 := u1.two (hu1.only_two (qb := qb)); have hb1 := (Below.refl w1.heap.size w1).alloc (Nat.le_refl _) (.cells #[.int .u8 2, .int .u64 0, .string ⟨#[]⟩, .slice none 0 0, .slice none 0 0] 60); have p2 := p1.pure hb1; have a3 := a2.alloc (.cells #[.int .u8 2, .int .u64 0, .string ⟨#[]⟩, .slice none 0 0, .slice none 0 0] 60); have x2 := Blk.new w1 [.int .u8 2, .int .u64 0, .string ⟨#[]⟩, .slice none 0 0, .slice none 0 0] 60; have u3 := u2.two (Upd.of_below hb1); have e0 := p2.q.at 0 rfl; have e1 := p2.q.at 1 rfl; have f0 := x2.at 0 rfl; have f1 := x2.at 1 rfl; have f2 := x2.at 2 rfl; have f3 := x2.at 3 rfl; have f4 := x2.at 4 rfl; have y0 := x2.frozen 0; have y1 := x2.frozen 1; have y2 := x2.frozen 2) | (go_at_call 102; (with_reducible refine (vmust_ok _ qb rb vb (left - 1) _ p2).mono ?_); rintro e _ ⟨rfl, rfl⟩) | (go_at_call 39; (with_reducible refine (pnum_no _ qb rb vb (left - 1) b1 false 1 1 p2 rfl (by unfold Wd; omega) (Or.inr hno.out)).mono ?_); rintro e w3 ⟨rfl, p3, hu3⟩; have hx0 := Lib.hid (show w.heap.size < w1.heap.size by have := a2.lt; omega); have hx1 := Lib.hid (show qb < w1.heap.size by have := hx0.out; omega); have x3 := x2.upd hu3 (fun e => by have := hx1.out; unfold Only at e; omega); have a4 := a3.upd hu3 (fun e => by unfold Only at e; omega); have u4 := u3.two (hu3.only_two (qb := qb)); have g1 := x3.frozen 1; have j1 := x3.at 1 rfl; have hs4 : Upd (fun k => k = w1.heap.size) w3 (w3.setCell ⟨w1.heap.size, 1, none⟩ (.int .u64 0)) := Upd.set (S := fun k => k = w1.heap.size) (p := ⟨w1.heap.size, 1, none⟩) rfl _; have p4 := p3.above hs4 (fun k e => by have := hx1.out; omega); have a5 := a4.upd hs4 (fun e => by have := hx0.out; omega); have x4 := x3.set 1 (.int .u64 0); have u5 : Upd (Two qb vb) w (w3.setCell ⟨w1.heap.size, 1, none⟩ (.int .u64 0)) := u4.trans hs4 (fun i e hi => by have := hx0.out; omega); have e04 := p4.q.at 0 rfl; have e14 := p4.q.at 1 rfl; have f04 := x4.at 0 rfl; have t04 := a5.frozen 0; have s04 := a5.at 0 rfl; have f14 := x4.at 1 rfl; have t14 := a5.frozen 1; have s14 := a5.at 1 rfl; have f24 := x4.at 2 rfl; have t24 := a5.frozen 2; have s24 := a5.at 2 rfl; have f34 := x4.at 3 rfl; have t34 := a5.frozen 3; have s34 := a5.at 3 rfl; have f44 := x4.at 4 rfl; have t44 := a5.frozen 4; have s44 := a5.at 4 rfl) | (go_at_call 102; (with_reducible refine (vmust_no _ qb rb vb (left - 1) _ _ true p4 (Or.inr rfl)).mono ?_); rintro e _ ⟨rfl, rfl⟩))
      rw [hr.out]; exact ⟨rfl, rfl, u5⟩
    · rw [hg2', Option.bind_some] at hr'
      have hr := Lib.hid hr'; have hg2 := Lib.hid hg2'
      have hnb := Lib.hid (gN_lt hg2').1
      clear hr' hg2'
      go_enter Tryz.func101, Tryz.ntmps101
      go_wp2_with (first | (go_at_call 39; (with_reducible refine (pnum_yes _ qb rb vb (left - 1) b 1 2 1 b1 h1 rfl (by unfold Wd; omega) hg.out hL).mono ?_); rintro e w1 ⟨rfl, p1, hu1⟩; have a2 := a1.upd hu1 (by have := h.vq; unfold Only; omega); have u2 := u1.two (hu1.only_two (qb := qb)); have hb1 := (Below.refl w1.heap.size w1).alloc (Nat.le_refl _) (.cells #[.int .u8 2, .int .u64 0, .string ⟨#[]⟩, .slice none 0 0, .slice none 0 0] 60); have p2 := p1.pure hb1; have a3 := a2.alloc (.cells #[.int .u8 2, .int .u64 0, .string ⟨#[]⟩, .slice none 0 0, .slice none 0 0] 60); have x2 := Blk.new w1 [.int .u8 2, .int .u64 0, .string ⟨#[]⟩, .slice none 0 0, .slice none 0 0] 60; have u3 := u2.two (Upd.of_below hb1); have e0 := p2.q.at 0 rfl; have e1 := p2.q.at 1 rfl; have f0 := x2.at 0 rfl; have f1 := x2.at 1 rfl; have f2 := x2.at 2 rfl; have f3 := x2.at 3 rfl; have f4 := x2.at 4 rfl; have y0 := x2.frozen 0; have y1 := x2.frozen 1; have y2 := x2.frozen 2) | (go_at_call 102; (with_reducible refine (vmust_ok _ qb rb vb (left - 1) _ p2).mono ?_); rintro e _ ⟨rfl, rfl⟩) | (go_at_call 39; (with_reducible refine (pnum_yes _ qb rb vb (left - 1) b1 1 n 1 b2 p2 rfl (by unfold Wd; omega) hg2.out hL1).mono ?_); rintro e w3 ⟨rfl, p3, hu3⟩; have hx0 := Lib.hid (show w.heap.size < w1.heap.size by have := a2.lt; omega); have hx1 := Lib.hid (show qb < w1.heap.size by have := hx0.out; omega); have x3 := x2.upd hu3 (fun e => by have := hx1.out; unfold Only at e; omega); have a4 := a3.upd hu3 (fun e => by unfold Only at e; omega); have u4 := u3.two (hu3.only_two (qb := qb)); have g1 := x3.frozen 1; have j1 := x3.at 1 rfl; have hs4 : Upd (fun k => k = w1.heap.size) w3 (w3.setCell ⟨w1.heap.size, 1, none⟩ (.int .u64 n)) := Upd.set (S := fun k => k = w1.heap.size) (p := ⟨w1.heap.size, 1, none⟩) rfl _; have p4 := p3.above hs4 (fun k e => by have := hx1.out; omega); have a5 := a4.upd hs4 (fun e => by have := hx0.out; omega); have x4 := x3.set 1 (.int .u64 n); have u5 : Upd (Two qb vb) w (w3.setCell ⟨w1.heap.size, 1, none⟩ (.int .u64 n)) := u4.trans hs4 (fun i e hi => by have := hx0.out; omega); have e04 := p4.q.at 0 rfl; have e14 := p4.q.at 1 rfl; have f04 := x4.at 0 rfl; have t04 := a5.frozen 0; have s04 := a5.at 0 rfl; have f14 := x4.at 1 rfl; have t14 := a5.frozen 1; have s14 := a5.at 1 rfl; have f24 := x4.at 2 rfl; have t24 := a5.frozen 2; have s24 := a5.at 2 rfl; have f34 := x4.at 3 rfl; have t34 := a5.frozen 3; have s34 := a5.at 3 rfl; have f44 := x4.at 4 rfl; have t44 := a5.frozen 4; have s44 := a5.at 4 rfl) | (go_at_call 102; (with_reducible refine (vmust_ok _ qb rb vb (left - 1) _ p4).mono ?_); rintro e _ ⟨rfl, rfl⟩))
      have aF := a5.fresh5 (.int .u8 2) (.int .u64 n) (.string ⟨#[]⟩) (.slice none 0 0) (.slice none 0 0)
      have k0 := aF.at 0 rfl; have k1 := aF.at 1 rfl; have k2 := aF.at 2 rfl; have k3 := aF.at 3 rfl; have k4 := aF.at 4 rfl
      refine bodyPost_ret (by simp [results, Tryz.results101, go_sem, k0, k1, k2, k3, k4]; rfl) rfl ?_
      rw [hr.out]
      exact ⟨.mk 2 n ⟨#[]⟩ (.slice none 0 0) (.slice none 0 0) [] [], rfl, rfl, Rd.leaf (by omega) (by have := hnb.out; omega) (by omega) (by omega), p4.fresh5 hq (.int .u8 2) (.int .u64 n) (.string ⟨#[]⟩) (.slice none 0 0) (.slice none 0 0), u5.fresh5 (Nat.le_refl _) (.int .u8 2) (.int .u64 n) (.string ⟨#[]⟩) (.slice none 0 0) (.slice none 0 0)⟩
  by_cases hk49 : k = 49
  · subst hk49
    clear hkw
    have hr' : rdP (d + 1) left b = (gN 8 b1).bind fun (x : Nat × List UInt8) => some (.mk 49 x.1 ByteArray.empty [] [], left - 1, x.2) := by
      unfold rdP; rw [hg', Option.bind_some]; show (if left - 1 < 0 then none else _) = _; rw [if_neg (by omega)]; first | rfl | exact rdM_bind _ _ _ _ _
    have hkw : IntKind.u8.wrap (49 : Int) = 49 := rfl
    clear hg'
    rcases gN_or 8 b1 with hno' | ⟨n, b2, hg2'⟩
    · rw [gN_none hno'] at hr'
      have hr := Lib.hid hr'; have hno := Lib.hid hno'
      clear hr' hno'
      go_enter Tryz.func101, Tryz.ntmps101
      go_wp2_with (first | (go_at_call 39; (with_reducible refine (pnum_yes _ qb rb vb (left - 1) b 1 49 1 b1 h1 rfl (by unfold Wd; omega) hg.out hL).mono ?_); rintro e w1 ⟨rfl, p1, hu1⟩; have a2 := a1.upd hu1 (by have := h.vq; unfold Only; omega); have u2 := u1.two (hu1.only_two (qb := qb)); have hb1 := (Below.refl w1.heap.size w1).alloc (Nat.le_refl _) (.cells #[.int .u8 49, .int .u64 0, .string ⟨#[]⟩, .slice none 0 0, .slice none 0 0] 60); have p2 := p1.pure hb1; have a3 := a2.alloc (.cells #[.int .u8 49, .int .u64 0, .string ⟨#[]⟩, .slice none 0 0, .slice none 0 0] 60); have x2 := Blk.new w1 [.int .u8 49, .int .u64 0, .string ⟨#[]⟩, .slice none 0 0, .slice none 0 0] 60; have u3 := u2.two (Upd.of_below hb1); have e0 := p2.q.at 0 rfl; have e1 := p2.q.at 1 rfl; have f0 := x2.at 0 rfl; have f1 := x2.at 1 rfl; have f2 := x2.at 2 rfl; have f3 := x2.at 3 rfl; have f4 := x2.at 4 rfl; have y0 := x2.frozen 0; have y1 := x2.frozen 1; have y2 := x2.frozen 2) | (go_at_call 102; (with_reducible refine (vmust_ok _ qb rb vb (left - 1) _ p2).mono ?_); rintro e _ ⟨rfl, rfl⟩) | (go_at_call 39; (with_reducible refine (pnum_no _ qb rb vb (left - 1) b1 false 8 8 p2 rfl (by unfold Wd; omega) (Or.inr hno.out)).mono ?_); rintro e w3 ⟨rfl, p3, hu3⟩; have hx0 := Lib.hid (show w.heap.size < w1.heap.size by have := a2.lt; omega); have hx1 := Lib.hid (show qb < w1.heap.size by have := hx0.out; omega); have x3 := x2.upd hu3 (fun e => by have := hx1.out; unfold Only at e; omega); have a4 := a3.upd hu3 (fun e => by unfold Only at e; omega); have u4 := u3.two (hu3.only_two (qb := qb)); have g1 := x3.frozen 1; have j1 := x3.at 1 rfl; have hs4 : Upd (fun k => k = w1.heap.size) w3 (w3.setCell ⟨w1.heap.size, 1, none⟩ (.int .u64 0)) := Upd.set (S := fun k => k = w1.heap.size) (p := ⟨w1.heap.size, 1, none⟩) rfl _; have p4 := p3.above hs4 (fun k e => by have := hx1.out; omega); have a5 := a4.upd hs4 (fun e => by have := hx0.out; omega); have x4 := x3.set 1 (.int .u64 0); have u5 : Upd (Two qb vb) w (w3.setCell ⟨w1.heap.size, 1, none⟩ (.int .u64 0)) := u4.trans hs4 (fun i e hi => by have := hx0.out; omega); have e04 := p4.q.at 0 rfl; have e14 := p4.q.at 1 rfl; have f04 := x4.at 0 rfl; have t04 := a5.frozen 0; have s04 := a5.at 0 rfl; have f14 := x4.at 1 rfl; have t14 := a5.frozen 1; have s14 := a5.at 1 rfl; have f24 := x4.at 2 rfl; have t24 := a5.frozen 2; have s24 := a5.at 2 rfl; have f34 := x4.at 3 rfl; have t34 := a5.frozen 3; have s34 := a5.at 3 rfl; have f44 := x4.at 4 rfl; have t44 := a5.frozen 4; have s44 := a5.at 4 rfl) | (go_at_call 102; (with_reducible refine (vmust_no _ qb rb vb (left - 1) _ _ true p4 (Or.inr rfl)).mono ?_); rintro e _ ⟨rfl, rfl⟩))
      rw [hr.out]; exact ⟨rfl, rfl, u5⟩
    · rw [hg2', Option.bind_some] at hr'
      have hr := Lib.hid hr'; have hg2 := Lib.hid hg2'
      have hnb := Lib.hid (gN_lt hg2').1
      clear hr' hg2'
      go_enter Tryz.func101, Tryz.ntmps101
      go_wp2_with (first | (go_at_call 39; (with_reducible refine (pnum_yes _ qb rb vb (left - 1) b 1 49 1 b1 h1 rfl (by unfold Wd; omega) hg.out hL).mono ?_); rintro e w1 ⟨rfl, p1, hu1⟩; have a2 := a1.upd hu1 (by have := h.vq; unfold Only; omega); have u2 := u1.two (hu1.only_two (qb := qb)); have hb1 := (Below.refl w1.heap.size w1).alloc (Nat.le_refl _) (.cells #[.int .u8 49, .int .u64 0, .string ⟨#[]⟩, .slice none 0 0, .slice none 0 0] 60); have p2 := p1.pure hb1; have a3 := a2.alloc (.cells #[.int .u8 49, .int .u64 0, .string ⟨#[]⟩, .slice none 0 0, .slice none 0 0] 60); have x2 := Blk.new w1 [.int .u8 49, .int .u64 0, .string ⟨#[]⟩, .slice none 0 0, .slice none 0 0] 60; have u3 := u2.two (Upd.of_below hb1); have e0 := p2.q.at 0 rfl; have e1 := p2.q.at 1 rfl; have f0 := x2.at 0 rfl; have f1 := x2.at 1 rfl; have f2 := x2.at 2 rfl; have f3 := x2.at 3 rfl; have f4 := x2.at 4 rfl; have y0 := x2.frozen 0; have y1 := x2.frozen 1; have y2 := x2.frozen 2) | (go_at_call 102; (with_reducible refine (vmust_ok _ qb rb vb (left - 1) _ p2).mono ?_); rintro e _ ⟨rfl, rfl⟩) | (go_at_call 39; (with_reducible refine (pnum_yes _ qb rb vb (left - 1) b1 8 n 8 b2 p2 rfl (by unfold Wd; omega) hg2.out hL1).mono ?_); rintro e w3 ⟨rfl, p3, hu3⟩; have hx0 := Lib.hid (show w.heap.size < w1.heap.size by have := a2.lt; omega); have hx1 := Lib.hid (show qb < w1.heap.size by have := hx0.out; omega); have x3 := x2.upd hu3 (fun e => by have := hx1.out; unfold Only at e; omega); have a4 := a3.upd hu3 (fun e => by unfold Only at e; omega); have u4 := u3.two (hu3.only_two (qb := qb)); have g1 := x3.frozen 1; have j1 := x3.at 1 rfl; have hs4 : Upd (fun k => k = w1.heap.size) w3 (w3.setCell ⟨w1.heap.size, 1, none⟩ (.int .u64 n)) := Upd.set (S := fun k => k = w1.heap.size) (p := ⟨w1.heap.size, 1, none⟩) rfl _; have p4 := p3.above hs4 (fun k e => by have := hx1.out; omega); have a5 := a4.upd hs4 (fun e => by have := hx0.out; omega); have x4 := x3.set 1 (.int .u64 n); have u5 : Upd (Two qb vb) w (w3.setCell ⟨w1.heap.size, 1, none⟩ (.int .u64 n)) := u4.trans hs4 (fun i e hi => by have := hx0.out; omega); have e04 := p4.q.at 0 rfl; have e14 := p4.q.at 1 rfl; have f04 := x4.at 0 rfl; have t04 := a5.frozen 0; have s04 := a5.at 0 rfl; have f14 := x4.at 1 rfl; have t14 := a5.frozen 1; have s14 := a5.at 1 rfl; have f24 := x4.at 2 rfl; have t24 := a5.frozen 2; have s24 := a5.at 2 rfl; have f34 := x4.at 3 rfl; have t34 := a5.frozen 3; have s34 := a5.at 3 rfl; have f44 := x4.at 4 rfl; have t44 := a5.frozen 4; have s44 := a5.at 4 rfl) | (go_at_call 102; (with_reducible refine (vmust_ok _ qb rb vb (left - 1) _ p4).mono ?_); rintro e _ ⟨rfl, rfl⟩))
      have aF := a5.fresh5 (.int .u8 49) (.int .u64 n) (.string ⟨#[]⟩) (.slice none 0 0) (.slice none 0 0)
      have k0 := aF.at 0 rfl; have k1 := aF.at 1 rfl; have k2 := aF.at 2 rfl; have k3 := aF.at 3 rfl; have k4 := aF.at 4 rfl
      refine bodyPost_ret (by simp [results, Tryz.results101, go_sem, k0, k1, k2, k3, k4]; rfl) rfl ?_
      rw [hr.out]
      exact ⟨.mk 49 n ⟨#[]⟩ (.slice none 0 0) (.slice none 0 0) [] [], rfl, rfl, Rd.leaf (by omega) (by have := hnb.out; omega) (by omega) (by omega), p4.fresh5 hq (.int .u8 49) (.int .u64 n) (.string ⟨#[]⟩) (.slice none 0 0) (.slice none 0 0), u5.fresh5 (Nat.le_refl _) (.int .u8 49) (.int .u64 n) (.string ⟨#[]⟩) (.slice none 0 0) (.slice none 0 0)⟩
  by_cases hk50 : k = 50
  · subst hk50
    clear hkw
    have hr' : rdP (d + 1) left b = (gN 8 b1).bind fun (x : Nat × List UInt8) => some (.mk 50 x.1 ByteArray.empty [] [], left - 1, x.2) := by
      unfold rdP; rw [hg', Option.bind_some]; show (if left - 1 < 0 then none else _) = _; rw [if_neg (by omega)]; first | rfl | exact rdM_bind _ _ _ _ _
    have hkw : IntKind.u8.wrap (50 : Int) = 50 := rfl
    clear hg'
    rcases gN_or 8 b1 with hno' | ⟨n, b2, hg2'⟩
    · rw [gN_none hno'] at hr'
      have hr := Lib.hid hr'; have hno := Lib.hid hno'
      clear hr' hno'
      go_enter Tryz.func101, Tryz.ntmps101
      go_wp2_with (first | (go_at_call 39; (with_reducible refine (pnum_yes _ qb rb vb (left - 1) b 1 50 1 b1 h1 rfl (by unfold Wd; omega) hg.out hL).mono ?_); rintro e w1 ⟨rfl, p1, hu1⟩; have a2 := a1.upd hu1 (by have := h.vq; unfold Only; omega); have u2 := u1.two (hu1.only_two (qb := qb)); have hb1 := (Below.refl w1.heap.size w1).alloc (Nat.le_refl _) (.cells #[.int .u8 50, .int .u64 0, .string ⟨#[]⟩, .slice none 0 0, .slice none 0 0] 60); have p2 := p1.pure hb1; have a3 := a2.alloc (.cells #[.int .u8 50, .int .u64 0, .string ⟨#[]⟩, .slice none 0 0, .slice none 0 0] 60); have x2 := Blk.new w1 [.int .u8 50, .int .u64 0, .string ⟨#[]⟩, .slice none 0 0, .slice none 0 0] 60; have u3 := u2.two (Upd.of_below hb1); have e0 := p2.q.at 0 rfl; have e1 := p2.q.at 1 rfl; have f0 := x2.at 0 rfl; have f1 := x2.at 1 rfl; have f2 := x2.at 2 rfl; have f3 := x2.at 3 rfl; have f4 := x2.at 4 rfl; have y0 := x2.frozen 0; have y1 := x2.frozen 1; have y2 := x2.frozen 2) | (go_at_call 102; (with_reducible refine (vmust_ok _ qb rb vb (left - 1) _ p2).mono ?_); rintro e _ ⟨rfl, rfl⟩) | (go_at_call 39; (with_reducible refine (pnum_no _ qb rb vb (left - 1) b1 false 8 8 p2 rfl (by unfold Wd; omega) (Or.inr hno.out)).mono ?_); rintro e w3 ⟨rfl, p3, hu3⟩; have hx0 := Lib.hid (show w.heap.size < w1.heap.size by have := a2.lt; omega); have hx1 := Lib.hid (show qb < w1.heap.size by have := hx0.out; omega); have x3 := x2.upd hu3 (fun e => by have := hx1.out; unfold Only at e; omega); have a4 := a3.upd hu3 (fun e => by unfold Only at e; omega); have u4 := u3.two (hu3.only_two (qb := qb)); have g1 := x3.frozen 1; have j1 := x3.at 1 rfl; have hs4 : Upd (fun k => k = w1.heap.size) w3 (w3.setCell ⟨w1.heap.size, 1, none⟩ (.int .u64 0)) := Upd.set (S := fun k => k = w1.heap.size) (p := ⟨w1.heap.size, 1, none⟩) rfl _; have p4 := p3.above hs4 (fun k e => by have := hx1.out; omega); have a5 := a4.upd hs4 (fun e => by have := hx0.out; omega); have x4 := x3.set 1 (.int .u64 0); have u5 : Upd (Two qb vb) w (w3.setCell ⟨w1.heap.size, 1, none⟩ (.int .u64 0)) := u4.trans hs4 (fun i e hi => by have := hx0.out; omega); have e04 := p4.q.at 0 rfl; have e14 := p4.q.at 1 rfl; have f04 := x4.at 0 rfl; have t04 := a5.frozen 0; have s04 := a5.at 0 rfl; have f14 := x4.at 1 rfl; have t14 := a5.frozen 1; have s14 := a5.at 1 rfl; have f24 := x4.at 2 rfl; have t24 := a5.frozen 2; have s24 := a5.at 2 rfl; have f34 := x4.at 3 rfl; have t34 := a5.frozen 3; have s34 := a5.at 3 rfl; have f44 := x4.at 4 rfl; have t44 := a5.frozen 4; have s44 := a5.at 4 rfl) | (go_at_call 102; (with_reducible refine (vmust_no _ qb rb vb (left - 1) _ _ true p4 (Or.inr rfl)).mono ?_); rintro e _ ⟨rfl, rfl⟩))
      rw [hr.out]; exact ⟨rfl, rfl, u5⟩
    · rw [hg2', Option.bind_some] at hr'
      have hr := Lib.hid hr'; have hg2 := Lib.hid hg2'
      have hnb := Lib.hid (gN_lt hg2').1
      clear hr' hg2'
      go_enter Tryz.func101, Tryz.ntmps101
      go_wp2_with (first | (go_at_call 39; (with_reducible refine (pnum_yes _ qb rb vb (left - 1) b 1 50 1 b1 h1 rfl (by unfold Wd; omega) hg.out hL).mono ?_); rintro e w1 ⟨rfl, p1, hu1⟩; have a2 := a1.upd hu1 (by have := h.vq; unfold Only; omega); have u2 := u1.two (hu1.only_two (qb := qb)); have hb1 := (Below.refl w1.heap.size w1).alloc (Nat.le_refl _) (.cells #[.int .u8 50, .int .u64 0, .string ⟨#[]⟩, .slice none 0 0, .slice none 0 0] 60); have p2 := p1.pure hb1; have a3 := a2.alloc (.cells #[.int .u8 50, .int .u64 0, .string ⟨#[]⟩, .slice none 0 0, .slice none 0 0] 60); have x2 := Blk.new w1 [.int .u8 50, .int .u64 0, .string ⟨#[]⟩, .slice none 0 0, .slice none 0 0] 60; have u3 := u2.two (Upd.of_below hb1); have e0 := p2.q.at 0 rfl; have e1 := p2.q.at 1 rfl; have f0 := x2.at 0 rfl; have f1 := x2.at 1 rfl; have f2 := x2.at 2 rfl; have f3 := x2.at 3 rfl; have f4 := x2.at 4 rfl; have y0 := x2.frozen 0; have y1 := x2.frozen 1; have y2 := x2.frozen 2) | (go_at_call 102; (with_reducible refine (vmust_ok _ qb rb vb (left - 1) _ p2).mono ?_); rintro e _ ⟨rfl, rfl⟩) | (go_at_call 39; (with_reducible refine (pnum_yes _ qb rb vb (left - 1) b1 8 n 8 b2 p2 rfl (by unfold Wd; omega) hg2.out hL1).mono ?_); rintro e w3 ⟨rfl, p3, hu3⟩; have hx0 := Lib.hid (show w.heap.size < w1.heap.size by have := a2.lt; omega); have hx1 := Lib.hid (show qb < w1.heap.size by have := hx0.out; omega); have x3 := x2.upd hu3 (fun e => by have := hx1.out; unfold Only at e; omega); have a4 := a3.upd hu3 (fun e => by unfold Only at e; omega); have u4 := u3.two (hu3.only_two (qb := qb)); have g1 := x3.frozen 1; have j1 := x3.at 1 rfl; have hs4 : Upd (fun k => k = w1.heap.size) w3 (w3.setCell ⟨w1.heap.size, 1, none⟩ (.int .u64 n)) := Upd.set (S := fun k => k = w1.heap.size) (p := ⟨w1.heap.size, 1, none⟩) rfl _; have p4 := p3.above hs4 (fun k e => by have := hx1.out; omega); have a5 := a4.upd hs4 (fun e => by have := hx0.out; omega); have x4 := x3.set 1 (.int .u64 n); have u5 : Upd (Two qb vb) w (w3.setCell ⟨w1.heap.size, 1, none⟩ (.int .u64 n)) := u4.trans hs4 (fun i e hi => by have := hx0.out; omega); have e04 := p4.q.at 0 rfl; have e14 := p4.q.at 1 rfl; have f04 := x4.at 0 rfl; have t04 := a5.frozen 0; have s04 := a5.at 0 rfl; have f14 := x4.at 1 rfl; have t14 := a5.frozen 1; have s14 := a5.at 1 rfl; have f24 := x4.at 2 rfl; have t24 := a5.frozen 2; have s24 := a5.at 2 rfl; have f34 := x4.at 3 rfl; have t34 := a5.frozen 3; have s34 := a5.at 3 rfl; have f44 := x4.at 4 rfl; have t44 := a5.frozen 4; have s44 := a5.at 4 rfl) | (go_at_call 102; (with_reducible refine (vmust_ok _ qb rb vb (left - 1) _ p4).mono ?_); rintro e _ ⟨rfl, rfl⟩))
      have aF := a5.fresh5 (.int .u8 50) (.int .u64 n) (.string ⟨#[]⟩) (.slice none 0 0) (.slice none 0 0)
      have k0 := aF.at 0 rfl; have k1 := aF.at 1 rfl; have k2 := aF.at 2 rfl; have k3 := aF.at 3 rfl; have k4 := aF.at 4 rfl
      refine bodyPost_ret (by simp [results, Tryz.results101, go_sem, k0, k1, k2, k3, k4]; rfl) rfl ?_
      rw [hr.out]
      exact ⟨.mk 50 n ⟨#[]⟩ (.slice none 0 0) (.slice none 0 0) [] [], rfl, rfl, Rd.leaf (by omega) (by have := hnb.out; omega) (by omega) (by omega), p4.fresh5 hq (.int .u8 50) (.int .u64 n) (.string ⟨#[]⟩) (.slice none 0 0) (.slice none 0 0), u5.fresh5 (Nat.le_refl _) (.int .u8 50) (.int .u64 n) (.string ⟨#[]⟩) (.slice none 0 0) (.slice none 0 0)⟩
  by_cases hk149 : k = 149
  · subst hk149
    clear hkw
    have hr' : rdP (d + 1) left b = (gT 2 4096 b1).bind fun (x : ByteArray × List UInt8) => some (.mk 149 0 x.1 [] [], left - 1, x.2) := by
      unfold rdP; rw [hg', Option.bind_some]; show (if left - 1 < 0 then none else _) = _; rw [if_neg (by omega)]; first | rfl | exact rdM_bind _ _ _ _ _
    have hkw : IntKind.u8.wrap (149 : Int) = 149 := rfl
    clear hg'
    rcases hg2' : gT 2 4096 b1 with _ | ⟨n, b2⟩
    · rw [hg2'] at hr'
      have hr := Lib.hid hr'; have hno := Lib.hid hg2'
      clear hr' hg2'
      go_enter Tryz.func101, Tryz.ntmps101
      go_wp2_with (first | (go_at_call 39; (with_reducible refine (pnum_yes _ qb rb vb (left - 1) b 1 149 1 b1 h1 rfl (by unfold Wd; omega) hg.out hL).mono ?_); rintro e w1 ⟨rfl, p1, hu1⟩; have a2 := a1.upd hu1 (by have := h.vq; unfold Only; omega); have u2 := u1.two (hu1.only_two (qb := qb)); have hb1 := (Below.refl w1.heap.size w1).alloc (Nat.le_refl _) (.cells #[.int .u8 149, .int .u64 0, .string ⟨#[]⟩, .slice none 0 0, .slice none 0 0] 60); have p2 := p1.pure hb1; have a3 := a2.alloc (.cells #[.int .u8 149, .int .u64 0, .string ⟨#[]⟩, .slice none 0 0, .slice none 0 0] 60); have x2 := Blk.new w1 [.int .u8 149, .int .u64 0, .string ⟨#[]⟩, .slice none 0 0, .slice none 0 0] 60; have u3 := u2.two (Upd.of_below hb1); have e0 := p2.q.at 0 rfl; have e1 := p2.q.at 1 rfl; have f0 := x2.at 0 rfl; have f1 := x2.at 1 rfl; have f2 := x2.at 2 rfl; have f3 := x2.at 3 rfl; have f4 := x2.at 4 rfl; have y0 := x2.frozen 0; have y1 := x2.frozen 1; have y2 := x2.frozen 2) | (go_at_call 102; (with_reducible refine (vmust_ok _ qb rb vb (left - 1) _ p2).mono ?_); rintro e _ ⟨rfl, rfl⟩) | (go_at_call 40; (with_reducible refine (ptext_no _ qb rb vb (left - 1) b1 false 2 4096 2 4096 p2 rfl rfl (by omega) (by omega) (Or.inr hno.out) hL1).mono ?_); rintro e w3 ⟨rfl, p3, hu3⟩; have hx0 := Lib.hid (show w.heap.size < w1.heap.size by have := a2.lt; omega); have hx1 := Lib.hid (show qb < w1.heap.size by have := hx0.out; omega); have x3 := x2.upd hu3 (fun e => by have := hx1.out; unfold Only at e; omega); have a4 := a3.upd hu3 (fun e => by unfold Only at e; omega); have u4 := u3.two (hu3.only_two (qb := qb)); have g2 := x3.frozen 2; have j2 := x3.at 2 rfl; have hs4 : Upd (fun k => k = w1.heap.size) w3 (w3.setCell ⟨w1.heap.size, 2, none⟩ (.string ⟨#[]⟩)) := Upd.set (S := fun k => k = w1.heap.size) (p := ⟨w1.heap.size, 2, none⟩) rfl _; have p4 := p3.above hs4 (fun k e => by have := hx1.out; omega); have a5 := a4.upd hs4 (fun e => by have := hx0.out; omega); have x4 := x3.set 2 (.string ⟨#[]⟩); have u5 : Upd (Two qb vb) w (w3.setCell ⟨w1.heap.size, 2, none⟩ (.string ⟨#[]⟩)) := u4.trans hs4 (fun i e hi => by have := hx0.out; omega); have e04 := p4.q.at 0 rfl; have e14 := p4.q.at 1 rfl; have f04 := x4.at 0 rfl; have t04 := a5.frozen 0; have s04 := a5.at 0 rfl; have f14 := x4.at 1 rfl; have t14 := a5.frozen 1; have s14 := a5.at 1 rfl; have f24 := x4.at 2 rfl; have t24 := a5.frozen 2; have s24 := a5.at 2 rfl; have f34 := x4.at 3 rfl; have t34 := a5.frozen 3; have s34 := a5.at 3 rfl; have f44 := x4.at 4 rfl; have t44 := a5.frozen 4; have s44 := a5.at 4 rfl) | (go_at_call 102; (with_reducible refine (vmust_no _ qb rb vb (left - 1) _ _ true p4 (Or.inr rfl)).mono ?_); rintro e _ ⟨rfl, rfl⟩))
      rw [hr.out]; exact ⟨rfl, rfl, u5⟩
    · rw [hg2', Option.bind_some] at hr'
      have hr := Lib.hid hr'; have hg2 := Lib.hid hg2'
      clear hr' hg2'
      go_enter Tryz.func101, Tryz.ntmps101
      go_wp2_with (first | (go_at_call 39; (with_reducible refine (pnum_yes _ qb rb vb (left - 1) b 1 149 1 b1 h1 rfl (by unfold Wd; omega) hg.out hL).mono ?_); rintro e w1 ⟨rfl, p1, hu1⟩; have a2 := a1.upd hu1 (by have := h.vq; unfold Only; omega); have u2 := u1.two (hu1.only_two (qb := qb)); have hb1 := (Below.refl w1.heap.size w1).alloc (Nat.le_refl _) (.cells #[.int .u8 149, .int .u64 0, .string ⟨#[]⟩, .slice none 0 0, .slice none 0 0] 60); have p2 := p1.pure hb1; have a3 := a2.alloc (.cells #[.int .u8 149, .int .u64 0, .string ⟨#[]⟩, .slice none 0 0, .slice none 0 0] 60); have x2 := Blk.new w1 [.int .u8 149, .int .u64 0, .string ⟨#[]⟩, .slice none 0 0, .slice none 0 0] 60; have u3 := u2.two (Upd.of_below hb1); have e0 := p2.q.at 0 rfl; have e1 := p2.q.at 1 rfl; have f0 := x2.at 0 rfl; have f1 := x2.at 1 rfl; have f2 := x2.at 2 rfl; have f3 := x2.at 3 rfl; have f4 := x2.at 4 rfl; have y0 := x2.frozen 0; have y1 := x2.frozen 1; have y2 := x2.frozen 2) | (go_at_call 102; (with_reducible refine (vmust_ok _ qb rb vb (left - 1) _ p2).mono ?_); rintro e _ ⟨rfl, rfl⟩) | (go_at_call 40; (with_reducible refine (ptext_yes _ qb rb vb (left - 1) b1 2 4096 2 4096 n b2 p2 rfl rfl (by omega) (by omega) hg2.out hL1).mono ?_); rintro e w3 ⟨rfl, p3, hu3⟩; have hx0 := Lib.hid (show w.heap.size < w1.heap.size by have := a2.lt; omega); have hx1 := Lib.hid (show qb < w1.heap.size by have := hx0.out; omega); have x3 := x2.upd hu3 (fun e => by have := hx1.out; unfold Only at e; omega); have a4 := a3.upd hu3 (fun e => by unfold Only at e; omega); have u4 := u3.two (hu3.only_two (qb := qb)); have g2 := x3.frozen 2; have j2 := x3.at 2 rfl; have hs4 : Upd (fun k => k = w1.heap.size) w3 (w3.setCell ⟨w1.heap.size, 2, none⟩ (.string n)) := Upd.set (S := fun k => k = w1.heap.size) (p := ⟨w1.heap.size, 2, none⟩) rfl _; have p4 := p3.above hs4 (fun k e => by have := hx1.out; omega); have a5 := a4.upd hs4 (fun e => by have := hx0.out; omega); have x4 := x3.set 2 (.string n); have u5 : Upd (Two qb vb) w (w3.setCell ⟨w1.heap.size, 2, none⟩ (.string n)) := u4.trans hs4 (fun i e hi => by have := hx0.out; omega); have e04 := p4.q.at 0 rfl; have e14 := p4.q.at 1 rfl; have f04 := x4.at 0 rfl; have t04 := a5.frozen 0; have s04 := a5.at 0 rfl; have f14 := x4.at 1 rfl; have t14 := a5.frozen 1; have s14 := a5.at 1 rfl; have f24 := x4.at 2 rfl; have t24 := a5.frozen 2; have s24 := a5.at 2 rfl; have f34 := x4.at 3 rfl; have t34 := a5.frozen 3; have s34 := a5.at 3 rfl; have f44 := x4.at 4 rfl; have t44 := a5.frozen 4; have s44 := a5.at 4 rfl) | (go_at_call 102; (with_reducible refine (vmust_ok _ qb rb vb (left - 1) _ p4).mono ?_); rintro e _ ⟨rfl, rfl⟩))
      have aF := a5.fresh5 (.int .u8 149) (.int .u64 0) (.string n) (.slice none 0 0) (.slice none 0 0)
      have k0 := aF.at 0 rfl; have k1 := aF.at 1 rfl; have k2 := aF.at 2 rfl; have k3 := aF.at 3 rfl; have k4 := aF.at 4 rfl
      refine bodyPost_ret (by simp [results, Tryz.results101, go_sem, k0, k1, k2, k3, k4]; rfl) rfl ?_
      rw [hr.out]
      exact ⟨.mk 149 0 n (.slice none 0 0) (.slice none 0 0) [] [], rfl, rfl, Rd.leaf (by omega) (by omega) (by omega) (by omega), p4.fresh5 hq (.int .u8 149) (.int .u64 0) (.string n) (.slice none 0 0) (.slice none 0 0), u5.fresh5 (Nat.le_refl _) (.int .u8 149) (.int .u64 0) (.string n) (.slice none 0 0) (.slice none 0 0)⟩
  by_cases hk160 : k = 160
  · subst hk160
    clear hkw
    have hr' : rdP (d + 1) left b = (gT 4 4096 b1).bind fun (x : ByteArray × List UInt8) => some (.mk 160 0 x.1 [] [], left - 1, x.2) := by
      unfold rdP; rw [hg', Option.bind_some]; show (if left - 1 < 0 then none else _) = _; rw [if_neg (by omega)]; first | rfl | exact rdM_bind _ _ _ _ _
    have hkw : IntKind.u8.wrap (160 : Int) = 160 := rfl
    clear hg'
    rcases hg2' : gT 4 4096 b1 with _ | ⟨n, b2⟩
    · rw [hg2'] at hr'
      have hr := Lib.hid hr'; have hno := Lib.hid hg2'
      clear hr' hg2'
      go_enter Tryz.func101, Tryz.ntmps101
      go_wp2_with (first | (go_at_call 39; (with_reducible refine (pnum_yes _ qb rb vb (left - 1) b 1 160 1 b1 h1 rfl (by unfold Wd; omega) hg.out hL).mono ?_); rintro e w1 ⟨rfl, p1, hu1⟩; have a2 := a1.upd hu1 (by have := h.vq; unfold Only; omega); have u2 := u1.two (hu1.only_two (qb := qb)); have hb1 := (Below.refl w1.heap.size w1).alloc (Nat.le_refl _) (.cells #[.int .u8 160, .int .u64 0, .string ⟨#[]⟩, .slice none 0 0, .slice none 0 0] 60); have p2 := p1.pure hb1; have a3 := a2.alloc (.cells #[.int .u8 160, .int .u64 0, .string ⟨#[]⟩, .slice none 0 0, .slice none 0 0] 60); have x2 := Blk.new w1 [.int .u8 160, .int .u64 0, .string ⟨#[]⟩, .slice none 0 0, .slice none 0 0] 60; have u3 := u2.two (Upd.of_below hb1); have e0 := p2.q.at 0 rfl; have e1 := p2.q.at 1 rfl; have f0 := x2.at 0 rfl; have f1 := x2.at 1 rfl; have f2 := x2.at 2 rfl; have f3 := x2.at 3 rfl; have f4 := x2.at 4 rfl; have y0 := x2.frozen 0; have y1 := x2.frozen 1; have y2 := x2.frozen 2) | (go_at_call 102; (with_reducible refine (vmust_ok _ qb rb vb (left - 1) _ p2).mono ?_); rintro e _ ⟨rfl, rfl⟩) | (go_at_call 40; (with_reducible refine (ptext_no _ qb rb vb (left - 1) b1 false 4 4096 4 4096 p2 rfl rfl (by omega) (by omega) (Or.inr hno.out) hL1).mono ?_); rintro e w3 ⟨rfl, p3, hu3⟩; have hx0 := Lib.hid (show w.heap.size < w1.heap.size by have := a2.lt; omega); have hx1 := Lib.hid (show qb < w1.heap.size by have := hx0.out; omega); have x3 := x2.upd hu3 (fun e => by have := hx1.out; unfold Only at e; omega); have a4 := a3.upd hu3 (fun e => by unfold Only at e; omega); have u4 := u3.two (hu3.only_two (qb := qb)); have g2 := x3.frozen 2; have j2 := x3.at 2 rfl; have hs4 : Upd (fun k => k = w1.heap.size) w3 (w3.setCell ⟨w1.heap.size, 2, none⟩ (.string ⟨#[]⟩)) := Upd.set (S := fun k => k = w1.heap.size) (p := ⟨w1.heap.size, 2, none⟩) rfl _; have p4 := p3.above hs4 (fun k e => by have := hx1.out; omega); have a5 := a4.upd hs4 (fun e => by have := hx0.out; omega); have x4 := x3.set 2 (.string ⟨#[]⟩); have u5 : Upd (Two qb vb) w (w3.setCell ⟨w1.heap.size, 2, none⟩ (.string ⟨#[]⟩)) := u4.trans hs4 (fun i e hi => by have := hx0.out; omega); have e04 := p4.q.at 0 rfl; have e14 := p4.q.at 1 rfl; have f04 := x4.at 0 rfl; have t04 := a5.frozen 0; have s04 := a5.at 0 rfl; have f14 := x4.at 1 rfl; have t14 := a5.frozen 1; have s14 := a5.at 1 rfl; have f24 := x4.at 2 rfl; have t24 := a5.frozen 2; have s24 := a5.at 2 rfl; have f34 := x4.at 3 rfl; have t34 := a5.frozen 3; have s34 := a5.at 3 rfl; have f44 := x4.at 4 rfl; have t44 := a5.frozen 4; have s44 := a5.at 4 rfl) | (go_at_call 102; (with_reducible refine (vmust_no _ qb rb vb (left - 1) _ _ true p4 (Or.inr rfl)).mono ?_); rintro e _ ⟨rfl, rfl⟩))
      rw [hr.out]; exact ⟨rfl, rfl, u5⟩
    · rw [hg2', Option.bind_some] at hr'
      have hr := Lib.hid hr'; have hg2 := Lib.hid hg2'
      clear hr' hg2'
      go_enter Tryz.func101, Tryz.ntmps101
      go_wp2_with (first | (go_at_call 39; (with_reducible refine (pnum_yes _ qb rb vb (left - 1) b 1 160 1 b1 h1 rfl (by unfold Wd; omega) hg.out hL).mono ?_); rintro e w1 ⟨rfl, p1, hu1⟩; have a2 := a1.upd hu1 (by have := h.vq; unfold Only; omega); have u2 := u1.two (hu1.only_two (qb := qb)); have hb1 := (Below.refl w1.heap.size w1).alloc (Nat.le_refl _) (.cells #[.int .u8 160, .int .u64 0, .string ⟨#[]⟩, .slice none 0 0, .slice none 0 0] 60); have p2 := p1.pure hb1; have a3 := a2.alloc (.cells #[.int .u8 160, .int .u64 0, .string ⟨#[]⟩, .slice none 0 0, .slice none 0 0] 60); have x2 := Blk.new w1 [.int .u8 160, .int .u64 0, .string ⟨#[]⟩, .slice none 0 0, .slice none 0 0] 60; have u3 := u2.two (Upd.of_below hb1); have e0 := p2.q.at 0 rfl; have e1 := p2.q.at 1 rfl; have f0 := x2.at 0 rfl; have f1 := x2.at 1 rfl; have f2 := x2.at 2 rfl; have f3 := x2.at 3 rfl; have f4 := x2.at 4 rfl; have y0 := x2.frozen 0; have y1 := x2.frozen 1; have y2 := x2.frozen 2) | (go_at_call 102; (with_reducible refine (vmust_ok _ qb rb vb (left - 1) _ p2).mono ?_); rintro e _ ⟨rfl, rfl⟩) | (go_at_call 40; (with_reducible refine (ptext_yes _ qb rb vb (left - 1) b1 4 4096 4 4096 n b2 p2 rfl rfl (by omega) (by omega) hg2.out hL1).mono ?_); rintro e w3 ⟨rfl, p3, hu3⟩; have hx0 := Lib.hid (show w.heap.size < w1.heap.size by have := a2.lt; omega); have hx1 := Lib.hid (show qb < w1.heap.size by have := hx0.out; omega); have x3 := x2.upd hu3 (fun e => by have := hx1.out; unfold Only at e; omega); have a4 := a3.upd hu3 (fun e => by unfold Only at e; omega); have u4 := u3.two (hu3.only_two (qb := qb)); have g2 := x3.frozen 2; have j2 := x3.at 2 rfl; have hs4 : Upd (fun k => k = w1.heap.size) w3 (w3.setCell ⟨w1.heap.size, 2, none⟩ (.string n)) := Upd.set (S := fun k => k = w1.heap.size) (p := ⟨w1.heap.size, 2, none⟩) rfl _; have p4 := p3.above hs4 (fun k e => by have := hx1.out; omega); have a5 := a4.upd hs4 (fun e => by have := hx0.out; omega); have x4 := x3.set 2 (.string n); have u5 : Upd (Two qb vb) w (w3.setCell ⟨w1.heap.size, 2, none⟩ (.string n)) := u4.trans hs4 (fun i e hi => by have := hx0.out; omega); have e04 := p4.q.at 0 rfl; have e14 := p4.q.at 1 rfl; have f04 := x4.at 0 rfl; have t04 := a5.frozen 0; have s04 := a5.at 0 rfl; have f14 := x4.at 1 rfl; have t14 := a5.frozen 1; have s14 := a5.at 1 rfl; have f24 := x4.at 2 rfl; have t24 := a5.frozen 2; have s24 := a5.at 2 rfl; have f34 := x4.at 3 rfl; have t34 := a5.frozen 3; have s34 := a5.at 3 rfl; have f44 := x4.at 4 rfl; have t44 := a5.frozen 4; have s44 := a5.at 4 rfl) | (go_at_call 102; (with_reducible refine (vmust_ok _ qb rb vb (left - 1) _ p4).mono ?_); rintro e _ ⟨rfl, rfl⟩))
      have aF := a5.fresh5 (.int .u8 160) (.int .u64 0) (.string n) (.slice none 0 0) (.slice none 0 0)
      have k0 := aF.at 0 rfl; have k1 := aF.at 1 rfl; have k2 := aF.at 2 rfl; have k3 := aF.at 3 rfl; have k4 := aF.at 4 rfl
      refine bodyPost_ret (by simp [results, Tryz.results101, go_sem, k0, k1, k2, k3, k4]; rfl) rfl ?_
      rw [hr.out]
      exact ⟨.mk 160 0 n (.slice none 0 0) (.slice none 0 0) [] [], rfl, rfl, Rd.leaf (by omega) (by omega) (by omega) (by omega), p4.fresh5 hq (.int .u8 160) (.int .u64 0) (.string n) (.slice none 0 0) (.slice none 0 0), u5.fresh5 (Nat.le_refl _) (.int .u8 160) (.int .u64 0) (.string n) (.slice none 0 0) (.slice none 0 0)⟩
  by_cases hk168 : k = 168
  · subst hk168
    clear hkw
    have hr' : rdP (d + 1) left b = (rdM (rdP d) true (left - 1) b1).bind fun (z : List ByteArray × List V × Int × List UInt8) => some (V.mk 168 0 ByteArray.empty z.1 z.2.1, z.2.2.1, z.2.2.2) := by
      unfold rdP; rw [hg', Option.bind_some]; show (if left - 1 < 0 then none else _) = _; rw [if_neg (by omega)]; first | rfl | exact rdM_bind _ _ _ _ _
    have hkw : IntKind.u8.wrap (168 : Int) = 168 := rfl
    clear hg'
    rcases hm : rdM (rdP d) true (left - 1) b1 with _ | ⟨ks, l, left2, b4⟩
    · have hMk : ∀ (u : World) (xb : Nat), PR u qb rb vb (left - 1) b1 false → qb < xb → Blk u xb [.int .u8 168, .int .u64 0, .string ⟨#[]⟩, .slice none 0 0, .slice none 0 0] → Calls Tryz.prog 113 #[.pointer (some ⟨qb, 0, none⟩), .pointer (some ⟨xb, 0, none⟩), .int .i64 dp] u (ManyPost u qb rb vb xb 168 none) := fun u xb h1 h2 h3 => by
        have := hMany.out u qb rb vb xb (left - 1) dp b1 168 h1 h2 h3 (by omega) (by omega) (by omega) (by omega) (by omega) hL1
        rw [← hm]; exact this
      rw [hm] at hr'
      have hr := Lib.hid hr'; have hMkh := Lib.hid hMk
      clear hr' hMk hm hMany
      go_enter Tryz.func101, Tryz.ntmps101
      go_wp2_with (first | (go_at_call 39; (with_reducible refine (pnum_yes _ qb rb vb (left - 1) b 1 168 1 b1 h1 rfl (by unfold Wd; omega) hg.out hL).mono ?_); rintro e w1 ⟨rfl, p1, hu1⟩; have a2 := a1.upd hu1 (by have := h.vq; unfold Only; omega); have u2 := u1.two (hu1.only_two (qb := qb)); have hb1 := (Below.refl w1.heap.size w1).alloc (Nat.le_refl _) (.cells #[.int .u8 168, .int .u64 0, .string ⟨#[]⟩, .slice none 0 0, .slice none 0 0] 60); have p2 := p1.pure hb1; have a3 := a2.alloc (.cells #[.int .u8 168, .int .u64 0, .string ⟨#[]⟩, .slice none 0 0, .slice none 0 0] 60); have x2 := Blk.new w1 [.int .u8 168, .int .u64 0, .string ⟨#[]⟩, .slice none 0 0, .slice none 0 0] 60; have u3 := u2.two (Upd.of_below hb1); have e0 := p2.q.at 0 rfl; have e1 := p2.q.at 1 rfl; have f0 := x2.at 0 rfl; have f1 := x2.at 1 rfl; have f2 := x2.at 2 rfl; have f3 := x2.at 3 rfl; have f4 := x2.at 4 rfl; have y0 := x2.frozen 0; have y1 := x2.frozen 1; have y2 := x2.frozen 2) | (go_at_call 102; (with_reducible refine (vmust_ok _ qb rb vb (left - 1) _ p2).mono ?_); rintro e _ ⟨rfl, rfl⟩; have hx0 := Lib.hid (show w.heap.size < w1.heap.size by have := a2.lt; omega); have hx1 := Lib.hid (show qb < w1.heap.size by have := hx0.out; omega)) | (go_at_call 113; refine (hMkh.out _ _ p2 hx1.out x2).mono ?_; rintro e w3 ⟨rfl, hu3⟩; have u4 : Upd (Two qb vb) w w3 := u3.trans hu3 (fun i e hi => by have := hx0.out; unfold Three at e; unfold Two; omega)))
      rw [hr.out]; exact ⟨rfl, rfl, u4⟩
    · have hMk : ∀ (u : World) (xb : Nat), PR u qb rb vb (left - 1) b1 false → qb < xb → Blk u xb [.int .u8 168, .int .u64 0, .string ⟨#[]⟩, .slice none 0 0, .slice none 0 0] → Calls Tryz.prog 113 #[.pointer (some ⟨qb, 0, none⟩), .pointer (some ⟨xb, 0, none⟩), .int .i64 dp] u (ManyPost u qb rb vb xb 168 (some (ks, l, left2, b4))) := fun u xb h1 h2 h3 => by
        have := hMany.out u qb rb vb xb (left - 1) dp b1 168 h1 h2 h3 (by omega) (by omega) (by omega) (by omega) (by omega) hL1
        rw [← hm]; exact this
      rw [hm, Option.bind_some] at hr'
      have hr := Lib.hid hr'; have hMkh := Lib.hid hMk
      clear hr' hMk hm hMany
      go_enter Tryz.func101, Tryz.ntmps101
      go_wp2_with (first | (go_at_call 39; (with_reducible refine (pnum_yes _ qb rb vb (left - 1) b 1 168 1 b1 h1 rfl (by unfold Wd; omega) hg.out hL).mono ?_); rintro e w1 ⟨rfl, p1, hu1⟩; have a2 := a1.upd hu1 (by have := h.vq; unfold Only; omega); have u2 := u1.two (hu1.only_two (qb := qb)); have hb1 := (Below.refl w1.heap.size w1).alloc (Nat.le_refl _) (.cells #[.int .u8 168, .int .u64 0, .string ⟨#[]⟩, .slice none 0 0, .slice none 0 0] 60); have p2 := p1.pure hb1; have a3 := a2.alloc (.cells #[.int .u8 168, .int .u64 0, .string ⟨#[]⟩, .slice none 0 0, .slice none 0 0] 60); have x2 := Blk.new w1 [.int .u8 168, .int .u64 0, .string ⟨#[]⟩, .slice none 0 0, .slice none 0 0] 60; have u3 := u2.two (Upd.of_below hb1); have e0 := p2.q.at 0 rfl; have e1 := p2.q.at 1 rfl; have f0 := x2.at 0 rfl; have f1 := x2.at 1 rfl; have f2 := x2.at 2 rfl; have f3 := x2.at 3 rfl; have f4 := x2.at 4 rfl; have y0 := x2.frozen 0; have y1 := x2.frozen 1; have y2 := x2.frozen 2) | (go_at_call 102; (with_reducible refine (vmust_ok _ qb rb vb (left - 1) _ p2).mono ?_); rintro e _ ⟨rfl, rfl⟩; have hx0 := Lib.hid (show w.heap.size < w1.heap.size by have := a2.lt; omega); have hx1 := Lib.hid (show qb < w1.heap.size by have := hx0.out; omega)) | (go_at_call 113; refine (hMkh.out _ _ p2 hx1.out x2).mono ?_; rintro e w3 ⟨kv, lv, L, rfl, x3, hK3, hL3, hLm, hRs, p3, hu3⟩; obtain ⟨ka, kc, rfl⟩ := own_lenB hK3; obtain ⟨la, lc, rfl⟩ := own_lenB hL3; have hLmh := Lib.hid hLm; clear hLm; have hRsh := Lib.hid hRs; clear hRs; have a4 := a3.upd hu3 (fun e => by have := hx0.out; unfold Three at e; omega); have u4 : Upd (Two qb vb) w w3 := u3.trans hu3 (fun i e hi => by have := hx0.out; unfold Three at e; unfold Two; omega); have e0y := p3.q.at 0 rfl; have e1y := p3.q.at 1 rfl; have f0y := x3.at 0 rfl; have t0y := a4.frozen 0; have s0y := a4.at 0 rfl; have f1y := x3.at 1 rfl; have t1y := a4.frozen 1; have s1y := a4.at 1 rfl; have f2y := x3.at 2 rfl; have t2y := a4.frozen 2; have s2y := a4.at 2 rfl; have f3y := x3.at 3 rfl; have t3y := a4.frozen 3; have s3y := a4.at 3 rfl; have f4y := x3.at 4 rfl; have t4y := a4.frozen 4; have s4y := a4.at 4 rfl) | (go_at_call 102; (with_reducible refine (vmust_ok _ qb rb vb left2 _ p3).mono ?_); rintro e _ ⟨rfl, rfl⟩))
      have aF := a4.fresh5 (.int .u8 168) (.int .u64 0) (.string ⟨#[]⟩) (.slice ka ks.length kc) (.slice la L.length lc)
      have k0 := aF.at 0 rfl; have k1 := aF.at 1 rfl; have k2 := aF.at 2 rfl; have k3 := aF.at 3 rfl; have k4 := aF.at 4 rfl
      have hF := Upd.at5 w3 w.heap.size (.int .u8 168) (.int .u64 0) (.string ⟨#[]⟩) (.slice ka ks.length kc) (.slice la L.length lc)
      have hz2 := a3.lt
      have hge : ∀ i, (w1.alloc (.cells #[.int .u8 168, .int .u64 0, .string ⟨#[]⟩, .slice none 0 0, .slice none 0 0] 60)).heap.size ≤ i → w.heap.size ≤ i ∧ i ≠ w.heap.size := fun i hi => by omega
      refine bodyPost_ret (by simp [results, Tryz.results101, go_sem, k0, k1, k2, k3, k4]; rfl) rfl ?_
      rw [hr.out]
      refine ⟨.mk 168 0 ⟨#[]⟩ (.slice ka ks.length kc) (.slice la L.length lc) ks L, rfl, ?_, ?_, p3.fresh5 hq (.int .u8 168) (.int .u64 0) (.string ⟨#[]⟩) (.slice ka ks.length kc) (.slice la L.length lc), u4.fresh5 (Nat.le_refl _) (.int .u8 168) (.int .u64 0) (.string ⟨#[]⟩) (.slice ka ks.length kc) (.slice la L.length lc)⟩
      · rw [VT.v_eq, ← hLmh.out]; rfl
      · refine .mk ((hK3.upd hF (fun i hi e => (hge i (hK3.ge hi)).2 e)).slc strEnc_len) (fun _ i hi => (hge i (hK3.ge hi)).1) ((hL3.upd hF (fun i hi e => (hge i (hL3.ge hi)).2 e)).slc vEnc_len) (fun _ i hi => (hge i (hL3.ge hi)).1) (fun x hx => ?_) (by show (0 : Int) ≤ 0; omega) (by show (0 : Int) < _; omega) (by show (0 : Int) ≤ 168; omega) (by show (168 : Int) < _; omega)
        exact ((hRsh.out x hx).upd hF (fun i hi e => (hge i hi).2 e)).weaken (fun i _ hi => (hge i hi).1)
  by_cases hk169 : k = 169
  · subst hk169
    clear hkw
    have hr' : rdP (d + 1) left b = (rdM (rdP d) false (left - 1) b1).bind fun (z : List ByteArray × List V × Int × List UInt8) => some (V.mk 169 0 ByteArray.empty z.1 z.2.1, z.2.2.1, z.2.2.2) := by
      unfold rdP; rw [hg', Option.bind_some]; show (if left - 1 < 0 then none else _) = _; rw [if_neg (by omega)]; first | rfl | exact rdM_bind _ _ _ _ _
    have hkw : IntKind.u8.wrap (169 : Int) = 169 := rfl
    clear hg'
    rcases hm : rdM (rdP d) false (left - 1) b1 with _ | ⟨ks, l, left2, b4⟩
    · have hMk : ∀ (u : World) (xb : Nat), PR u qb rb vb (left - 1) b1 false → qb < xb → Blk u xb [.int .u8 169, .int .u64 0, .string ⟨#[]⟩, .slice none 0 0, .slice none 0 0] → Calls Tryz.prog 113 #[.pointer (some ⟨qb, 0, none⟩), .pointer (some ⟨xb, 0, none⟩), .int .i64 dp] u (ManyPost u qb rb vb xb 169 none) := fun u xb h1 h2 h3 => by
        have := hMany.out u qb rb vb xb (left - 1) dp b1 169 h1 h2 h3 (by omega) (by omega) (by omega) (by omega) (by omega) hL1
        rw [← hm]; exact this
      rw [hm] at hr'
      have hr := Lib.hid hr'; have hMkh := Lib.hid hMk
      clear hr' hMk hm hMany
      go_enter Tryz.func101, Tryz.ntmps101
      go_wp2_with (first | (go_at_call 39; (with_reducible refine (pnum_yes _ qb rb vb (left - 1) b 1 169 1 b1 h1 rfl (by unfold Wd; omega) hg.out hL).mono ?_); rintro e w1 ⟨rfl, p1, hu1⟩; have a2 := a1.upd hu1 (by have := h.vq; unfold Only; omega); have u2 := u1.two (hu1.only_two (qb := qb)); have hb1 := (Below.refl w1.heap.size w1).alloc (Nat.le_refl _) (.cells #[.int .u8 169, .int .u64 0, .string ⟨#[]⟩, .slice none 0 0, .slice none 0 0] 60); have p2 := p1.pure hb1; have a3 := a2.alloc (.cells #[.int .u8 169, .int .u64 0, .string ⟨#[]⟩, .slice none 0 0, .slice none 0 0] 60); have x2 := Blk.new w1 [.int .u8 169, .int .u64 0, .string ⟨#[]⟩, .slice none 0 0, .slice none 0 0] 60; have u3 := u2.two (Upd.of_below hb1); have e0 := p2.q.at 0 rfl; have e1 := p2.q.at 1 rfl; have f0 := x2.at 0 rfl; have f1 := x2.at 1 rfl; have f2 := x2.at 2 rfl; have f3 := x2.at 3 rfl; have f4 := x2.at 4 rfl; have y0 := x2.frozen 0; have y1 := x2.frozen 1; have y2 := x2.frozen 2) | (go_at_call 102; (with_reducible refine (vmust_ok _ qb rb vb (left - 1) _ p2).mono ?_); rintro e _ ⟨rfl, rfl⟩; have hx0 := Lib.hid (show w.heap.size < w1.heap.size by have := a2.lt; omega); have hx1 := Lib.hid (show qb < w1.heap.size by have := hx0.out; omega)) | (go_at_call 113; refine (hMkh.out _ _ p2 hx1.out x2).mono ?_; rintro e w3 ⟨rfl, hu3⟩; have u4 : Upd (Two qb vb) w w3 := u3.trans hu3 (fun i e hi => by have := hx0.out; unfold Three at e; unfold Two; omega)))
      rw [hr.out]; exact ⟨rfl, rfl, u4⟩
    · have hMk : ∀ (u : World) (xb : Nat), PR u qb rb vb (left - 1) b1 false → qb < xb → Blk u xb [.int .u8 169, .int .u64 0, .string ⟨#[]⟩, .slice none 0 0, .slice none 0 0] → Calls Tryz.prog 113 #[.pointer (some ⟨qb, 0, none⟩), .pointer (some ⟨xb, 0, none⟩), .int .i64 dp] u (ManyPost u qb rb vb xb 169 (some (ks, l, left2, b4))) := fun u xb h1 h2 h3 => by
        have := hMany.out u qb rb vb xb (left - 1) dp b1 169 h1 h2 h3 (by omega) (by omega) (by omega) (by omega) (by omega) hL1
        rw [← hm]; exact this
      rw [hm, Option.bind_some] at hr'
      have hr := Lib.hid hr'; have hMkh := Lib.hid hMk
      clear hr' hMk hm hMany
      go_enter Tryz.func101, Tryz.ntmps101
      go_wp2_with (first | (go_at_call 39; (with_reducible refine (pnum_yes _ qb rb vb (left - 1) b 1 169 1 b1 h1 rfl (by unfold Wd; omega) hg.out hL).mono ?_); rintro e w1 ⟨rfl, p1, hu1⟩; have a2 := a1.upd hu1 (by have := h.vq; unfold Only; omega); have u2 := u1.two (hu1.only_two (qb := qb)); have hb1 := (Below.refl w1.heap.size w1).alloc (Nat.le_refl _) (.cells #[.int .u8 169, .int .u64 0, .string ⟨#[]⟩, .slice none 0 0, .slice none 0 0] 60); have p2 := p1.pure hb1; have a3 := a2.alloc (.cells #[.int .u8 169, .int .u64 0, .string ⟨#[]⟩, .slice none 0 0, .slice none 0 0] 60); have x2 := Blk.new w1 [.int .u8 169, .int .u64 0, .string ⟨#[]⟩, .slice none 0 0, .slice none 0 0] 60; have u3 := u2.two (Upd.of_below hb1); have e0 := p2.q.at 0 rfl; have e1 := p2.q.at 1 rfl; have f0 := x2.at 0 rfl; have f1 := x2.at 1 rfl; have f2 := x2.at 2 rfl; have f3 := x2.at 3 rfl; have f4 := x2.at 4 rfl; have y0 := x2.frozen 0; have y1 := x2.frozen 1; have y2 := x2.frozen 2) | (go_at_call 102; (with_reducible refine (vmust_ok _ qb rb vb (left - 1) _ p2).mono ?_); rintro e _ ⟨rfl, rfl⟩; have hx0 := Lib.hid (show w.heap.size < w1.heap.size by have := a2.lt; omega); have hx1 := Lib.hid (show qb < w1.heap.size by have := hx0.out; omega)) | (go_at_call 113; refine (hMkh.out _ _ p2 hx1.out x2).mono ?_; rintro e w3 ⟨kv, lv, L, rfl, x3, hK3, hL3, hLm, hRs, p3, hu3⟩; obtain ⟨ka, kc, rfl⟩ := own_lenB hK3; obtain ⟨la, lc, rfl⟩ := own_lenB hL3; have hLmh := Lib.hid hLm; clear hLm; have hRsh := Lib.hid hRs; clear hRs; have a4 := a3.upd hu3 (fun e => by have := hx0.out; unfold Three at e; omega); have u4 : Upd (Two qb vb) w w3 := u3.trans hu3 (fun i e hi => by have := hx0.out; unfold Three at e; unfold Two; omega); have e0y := p3.q.at 0 rfl; have e1y := p3.q.at 1 rfl; have f0y := x3.at 0 rfl; have t0y := a4.frozen 0; have s0y := a4.at 0 rfl; have f1y := x3.at 1 rfl; have t1y := a4.frozen 1; have s1y := a4.at 1 rfl; have f2y := x3.at 2 rfl; have t2y := a4.frozen 2; have s2y := a4.at 2 rfl; have f3y := x3.at 3 rfl; have t3y := a4.frozen 3; have s3y := a4.at 3 rfl; have f4y := x3.at 4 rfl; have t4y := a4.frozen 4; have s4y := a4.at 4 rfl) | (go_at_call 102; (with_reducible refine (vmust_ok _ qb rb vb left2 _ p3).mono ?_); rintro e _ ⟨rfl, rfl⟩))
      have aF := a4.fresh5 (.int .u8 169) (.int .u64 0) (.string ⟨#[]⟩) (.slice ka ks.length kc) (.slice la L.length lc)
      have k0 := aF.at 0 rfl; have k1 := aF.at 1 rfl; have k2 := aF.at 2 rfl; have k3 := aF.at 3 rfl; have k4 := aF.at 4 rfl
      have hF := Upd.at5 w3 w.heap.size (.int .u8 169) (.int .u64 0) (.string ⟨#[]⟩) (.slice ka ks.length kc) (.slice la L.length lc)
      have hz2 := a3.lt
      have hge : ∀ i, (w1.alloc (.cells #[.int .u8 169, .int .u64 0, .string ⟨#[]⟩, .slice none 0 0, .slice none 0 0] 60)).heap.size ≤ i → w.heap.size ≤ i ∧ i ≠ w.heap.size := fun i hi => by omega
      refine bodyPost_ret (by simp [results, Tryz.results101, go_sem, k0, k1, k2, k3, k4]; rfl) rfl ?_
      rw [hr.out]
      refine ⟨.mk 169 0 ⟨#[]⟩ (.slice ka ks.length kc) (.slice la L.length lc) ks L, rfl, ?_, ?_, p3.fresh5 hq (.int .u8 169) (.int .u64 0) (.string ⟨#[]⟩) (.slice ka ks.length kc) (.slice la L.length lc), u4.fresh5 (Nat.le_refl _) (.int .u8 169) (.int .u64 0) (.string ⟨#[]⟩) (.slice ka ks.length kc) (.slice la L.length lc)⟩
      · rw [VT.v_eq, ← hLmh.out]; rfl
      · refine .mk ((hK3.upd hF (fun i hi e => (hge i (hK3.ge hi)).2 e)).slc strEnc_len) (fun _ i hi => (hge i (hK3.ge hi)).1) ((hL3.upd hF (fun i hi e => (hge i (hL3.ge hi)).2 e)).slc vEnc_len) (fun _ i hi => (hge i (hL3.ge hi)).1) (fun x hx => ?_) (by show (0 : Int) ≤ 0; omega) (by show (0 : Int) < _; omega) (by show (0 : Int) ≤ 169; omega) (by show (169 : Int) < _; omega)
        exact ((hRsh.out x hx).upd hF (fun i hi e => (hge i hi).2 e)).weaken (fun i _ hi => (hge i hi).1)
  have hr := Lib.hid (show rdP (d + 1) left b = none by
    unfold rdP; rw [hg', Option.bind_some]; dsimp only
    rw [if_neg (by omega), if_neg hk240, if_neg (by omega), if_neg (by omega), if_neg hk149, if_neg hk160, if_neg (by omega)])
  have q240 : ((k : Int) == 240) = false := beq_eq_false_iff_ne.2 (by omega)
  have q8 : ((k : Int) == 8) = false := beq_eq_false_iff_ne.2 (by omega)
  have q2 : ((k : Int) == 2) = false := beq_eq_false_iff_ne.2 (by omega)
  have q49 : ((k : Int) == 49) = false := beq_eq_false_iff_ne.2 (by omega)
  have q50 : ((k : Int) == 50) = false := beq_eq_false_iff_ne.2 (by omega)
  have q149 : ((k : Int) == 149) = false := beq_eq_false_iff_ne.2 (by omega)
  have q160 : ((k : Int) == 160) = false := beq_eq_false_iff_ne.2 (by omega)
  have q168 : ((k : Int) == 168) = false := beq_eq_false_iff_ne.2 (by omega)
  have q169 : ((k : Int) == 169) = false := beq_eq_false_iff_ne.2 (by omega)
  clear hg' hk240 hk8 hk2 hk49 hk50 hk149 hk160 hk168 hk169
  go_enter Tryz.func101, Tryz.ntmps101
  go_wp2_with (first | (go_at_call 39; (with_reducible refine (pnum_yes _ qb rb vb (left - 1) b 1 k 1 b1 h1 rfl (by unfold Wd; omega) hg.out hL).mono ?_); rintro e w1 ⟨rfl, p1, hu1⟩; have a2 := a1.upd hu1 (by have := h.vq; unfold Only; omega); have u2 := u1.two (hu1.only_two (qb := qb)); have hb1 := (Below.refl w1.heap.size w1).alloc (Nat.le_refl _) (.cells #[.int .u8 k, .int .u64 0, .string ⟨#[]⟩, .slice none 0 0, .slice none 0 0] 60); have p2 := p1.pure hb1; have a3 := a2.alloc (.cells #[.int .u8 k, .int .u64 0, .string ⟨#[]⟩, .slice none 0 0, .slice none 0 0] 60); have x2 := Blk.new w1 [.int .u8 k, .int .u64 0, .string ⟨#[]⟩, .slice none 0 0, .slice none 0 0] 60; have u3 := u2.two (Upd.of_below hb1); have e0 := p2.q.at 0 rfl; have e1 := p2.q.at 1 rfl; have f0 := x2.at 0 rfl; have f1 := x2.at 1 rfl; have f2 := x2.at 2 rfl; have f3 := x2.at 3 rfl; have f4 := x2.at 4 rfl; have y0 := x2.frozen 0; have y1 := x2.frozen 1; have y2 := x2.frozen 2) | (go_at_call 102; (with_reducible refine (vmust_no _ qb rb vb (left - 1) _ false false p2 (Or.inl rfl)).mono ?_); rintro e _ ⟨rfl, rfl⟩) | (go_at_call 102; (with_reducible refine (vmust_ok _ qb rb vb (left - 1) _ p2).mono ?_); rintro e _ ⟨rfl, rfl⟩))
  rw [hr.out]; exact ⟨rfl, rfl, u3⟩
end Go.Proofs.YtflglpbjapgciaaGreatDoor
