/- Document's side of chapter 18: posthouseref04.Compare. Conditions: texts of at most a million bytes. Written by gen_acompare.py. (Texts joined; the heads of the others stand below.) -/
import Derived.Test.YtcelpincmpjhkaaAssocI
import Derived.BigQuiet
import Derived.Test.YtcelpincmpjhkaaGB
import Derived.Test.YtcelpincmpjhkaaGA

/- Document's side of chapter 18: posthouseref04.Check. Conditions: none. -/
namespace Go.Proofs.Ytcelpincmpjhkaa
set_option linter.unusedSimpArgs false
set_option linter.unusedVariables false
open Go.RowKit

set_option maxRecDepth 100000 in
set_option maxHeartbeats 1600000 in
theorem rcheck4 (w : World) (y : Xid) (v : Int) (h : (if XidOk y then (0 : Int) else 40) = v) :
    Calls Try.prog 73 #[.agg #[.int .u32 y.1, .string y.2.1, .string y.2.2]] w fun e w' => e = .returned (.int .i64 v) ∧ Below w.heap.size w w' := by
  obtain ⟨yf, yg, yb⟩ := y
  simp only
  have hB0 := (Below.refl w.heap.size w).alloc (Nat.le_refl _) (.cells #[.int .u32 yf, .string yg, .string yb] 28)
  by_cases h1 : 0 < yg.size
  · have i1 : ¬ (yg.size : Int) < 1 := by omega
    by_cases h2 : yg.size ≤ 64
    · have i2 : ¬ (64 : Int) < (yg.size : Int) := by omega
      by_cases h3 : yb.size ≤ 64
      · have i3 : ¬ (64 : Int) < (yb.size : Int) := by omega
        rw [if_pos (show XidOk (yf, yg, yb) from ⟨h1, h2, h3⟩)] at h
        have hh := Lib.hid h.symm; clear h
        go_enter Try.func73, Try.ntmps73
        go_wp2
        go_ret
        exact ⟨by rw [hh.out]; rfl, hB0⟩
      · have i3 : (64 : Int) < (yb.size : Int) := by omega
        rw [if_neg (fun q : XidOk (yf, yg, yb) => h3 q.2.2)] at h
        have hh := Lib.hid h.symm; clear h
        go_enter Try.func73, Try.ntmps73
        go_wp2
        go_ret
        exact ⟨by rw [hh.out]; rfl, hB0⟩
    · have i2 : (64 : Int) < (yg.size : Int) := by omega
      rw [if_neg (fun q : XidOk (yf, yg, yb) => h2 q.2.1)] at h
      have hh := Lib.hid h.symm; clear h
      go_enter Try.func73, Try.ntmps73
      go_wp2
      go_ret
      exact ⟨by rw [hh.out]; rfl, hB0⟩
  · have i1 : (yg.size : Int) < 1 := by omega
    rw [if_neg (fun q : XidOk (yf, yg, yb) => h1 q.1)] at h
    have hh := Lib.hid h.symm; clear h
    go_enter Try.func73, Try.ntmps73
    go_wp2
    go_ret
    exact ⟨by rw [hh.out]; rfl, hB0⟩
end Go.Proofs.Ytcelpincmpjhkaa

/- Document's side of chapter 18: Find. Conditions: at most a million. -/
namespace Go.Proofs.Ytcelpincmpjhkaa
set_option linter.unusedSimpArgs false
set_option linter.unusedVariables false
open Go.RowKit

theorem bytes_beq_eq (a b : ByteArray) : (a == b) = decide (a = b) := by
  rw [beq_toListBytes]
  by_cases h : a = b
  · subst h; simp
  · rw [decide_eq_false h]
    apply beq_eq_false_iff_ne.2
    intro e
    apply h
    have : a.data.toList = b.data.toList := by rw [ByteArray.toList_eq, ByteArray.toList_eq] at e; exact e
    cases a; cases b; simp only [ByteArray.mk.injEq]; exact Array.toList_inj.1 this
theorem key_beq {a : Asc} {s yf : Int} {yg yb : ByteArray} : (a.1 == s && (a.2.1.1 == yf && (a.2.1.2.1 == yg && a.2.1.2.2 == yb))) = decide (keyA a = (s, yf, yg, yb)) := by
  obtain ⟨a1, ⟨a2, a3, a4⟩, a5⟩ := a
  simp only [keyA, bytes_beq_eq, Prod.mk.injEq, Bool.decide_and]
  rfl
/-- The first place. -/
def FndA (L : List Asc) (s : Int) (x : Xid) (i : Int) : Prop := (¬ Mem L s x ∧ i = -1) ∨ ∃ k : Nat, ∃ h : k < L.length, keyA L[k] = (s, x) ∧ i = k

set_option maxRecDepth 100000 in
set_option maxHeartbeats 1600000 in
theorem find_any (w : World) (v : Value) (L : List Asc) (s : Int) (y : Xid) (hs : Slc ascEnc 5 w v L) (hL : L.length ≤ 1000000) :
    Calls Try.prog 61 #[v, .int .u64 s, .agg #[.int .u32 y.1, .string y.2.1, .string y.2.2]] w fun e w' => (∃ i, e = .returned (.int .i64 i) ∧ FndA L s y i) ∧ Below w.heap.size w w' := by
  obtain ⟨yf, yg, yb⟩ := y
  simp only
  obtain ⟨a, cap, rfl, hm⟩ := hs.len
  unfold maxLen at hm
  have hB0 := (Below.refl w.heap.size w).alloc (Nat.le_refl _) (.cells #[.int .u32 yf, .string yg, .string yb] 28)
  have b0 := Blk.new w [.int .u32 yf, .string yg, .string yb] 28
  go_enter Try.func61, Try.ntmps61
  go_wp2
  go_loopw [7] (fun s7 wr => ∃ k : Nat, k ≤ L.length ∧ s7 = .int .i64 k ∧ (∀ j, (h : j < L.length) → j < k → keyA L[j] ≠ (s, yf, yg, yb)) ∧ Below (w.heap.size + 1) (w.alloc (.cells #[.int .u32 yf, .string yg, .string yb] 28)) wr) (fun s7 _ => L.length - (intOf s7).toNat)
  case atStart => exact ⟨0, by omega, rfl, fun j _ h => by omega, Below.refl _ _⟩
  case round =>
    obtain ⟨k, hk, rfl, hN, hB⟩ := hrel
    have hN' := Lib.hid hN; clear hN
    have hBt := hB0.trans (hB.mono (by omega))
    have b1 := b0.below hB (by omega)
    by_cases hlt : k < L.length
    · have hsr := hs.pure hBt
      obtain ⟨g, off, rfl⟩ := hsr.addr hlt
      obtain ⟨c0, c1, c2, c3, c4⟩ := asc_cells hsr hlt
      have d0 : wr.cell? ⟨w.heap.size, 0, none⟩ = some (.int .u32 yf) := b1.cell 0
      have d1 : wr.cell? ⟨w.heap.size, 1, none⟩ = some (.string yg) := b1.cell 1
      have d2 : wr.cell? ⟨w.heap.size, 2, none⟩ = some (.string yb) := b1.cell 2
      have hkb := Lib.hid (key_beq (a := L[k]) (s := s) (yf := yf) (yg := yg) (yb := yb))
      have hx0 := fun (u : World) => xid_eql u L[k].2.1.1 yf L[k].2.1.2.1 L[k].2.1.2.2 yg yb
      have hst := fun (j : Nat) (h : j < L.length) (h' : j < k + 1) (hn : keyA L[k] ≠ (s, yf, yg, yb)) => show keyA L[j] ≠ (s, yf, yg, yb) from by
        rcases Nat.lt_or_ge j k with q | q
        · exact hN'.out j h q
        · obtain rfl : j = k := by omega
          exact hn
      have hst' := Lib.hid hst; clear hst
      obtain ⟨p, hp⟩ : ∃ p, (L[k].2.1.1 == yf && (L[k].2.1.2.1 == yg && L[k].2.1.2.2 == yb)) = p := ⟨_, rfl⟩
      simp only [hp] at hx0
      have hp' := Lib.hid hp; clear hp
      cases hq : (L[k].1 == s)
      · have hne : keyA L[k] ≠ (s, yf, yg, yb) := fun e => by have := hkb.out; rw [hq, e] at this; simp at this
        have hne' := Lib.hid hne; clear hne
        go_wp2
        go_quiet (fail)
        go_wp2
        go_roundw
        case rel => exact ⟨k + 1, by omega, by go_num, fun j h h' => hst'.out j h h' hne'.out, below_drewN hB _⟩
        case measure => simp [intOf]; omega
      · cases p
        · have hne : keyA L[k] ≠ (s, yf, yg, yb) := fun e => by have := hkb.out; rw [hq, hp'.out, e] at this; simp at this
          have hne' := Lib.hid hne; clear hne
          go_wp2
          go_quiet (fail)
          go_wp2
          go_roundw
          case rel => exact ⟨k + 1, by omega, by go_num, fun j h h' => hst'.out j h h' hne'.out, below_drewN hB _⟩
          case measure => simp [intOf]; omega
        · have he : keyA L[k] = (s, yf, yg, yb) := by have := hkb.out; rw [hq, hp'.out] at this; simpa using this.symm
          have he' := Lib.hid he; clear he
          go_wp2
          go_quiet (fail)
          go_wp2
          go_ret
          exact ⟨⟨_, rfl, Or.inr ⟨k, hlt, he'.out, rfl⟩⟩, below_drewN hBt _⟩
    · obtain rfl : k = L.length := by omega
      go_wp2
      go_ret
      exact ⟨⟨_, rfl, Or.inl ⟨fun ⟨j, h, e⟩ => hN'.out j h h e, rfl⟩⟩, hBt⟩
end Go.Proofs.Ytcelpincmpjhkaa

/- Document's side of chapter 18: Same at equal rows. Conditions: at most a million. -/
namespace Go.Proofs.Ytcelpincmpjhkaa
set_option linter.unusedSimpArgs false
set_option linter.unusedVariables false
open Go.RowKit

set_option maxRecDepth 100000 in
set_option maxHeartbeats 800000 in
theorem asc_neq_self (w : World) (s xf : Int) (xg xb : ByteArray) (p : Bool) : (binOp .neq 57 (.agg #[.int .u64 s, .int .u32 xf, .string xg, .string xb, .bool p]) (.agg #[.int .u64 s, .int .u32 xf, .string xg, .string xb, .bool p])).run Try.prog w = .ok (.bool false) w := by
  have hf : Try.prog.fieldsOf 57 = (match Try.prog.underlying 57 with | some (.struct fs) => fs | _ => #[]) := rfl
  rw [Try.underlying57] at hf
  simp only at hf
  have hf2 : Try.prog.fieldsOf 28 = (match Try.prog.underlying 28 with | some (.struct fs) => fs | _ => #[]) := rfl
  rw [Try.underlying28] at hf2
  simp only at hf2
  rw [run_neq_struct, show (10000 : Nat) = 9999 + 1 from rfl, run_equalIn_agg w 9999 _ _ _ (by rw [hf]; exact Try.underlying57) (by kernel_rfl), hf]
  cases p <;> simp [go_sem, bytes_beq, bytes_self, hf2]

set_option maxRecDepth 100000 in
set_option maxHeartbeats 1600000 in
theorem same_eq (w : World) (u v : Value) (L : List Asc) (hu : Slc ascEnc 5 w u L) (hv : Slc ascEnc 5 w v L) (hL : L.length ≤ 1000000) :
    Calls Try.prog 63 #[u, v] w fun e w' => e = .returned (.bool true) ∧ Below w.heap.size w w' := by
  obtain ⟨a, cap, rfl, hm⟩ := hu.len
  obtain ⟨b, cbp, rfl, _⟩ := hv.len
  unfold maxLen at hm
  go_enter Try.func63, Try.ntmps63
  go_wp2
  go_loopw [5] (fun s5 wr => ∃ k : Nat, k ≤ L.length ∧ s5 = .int .i64 k ∧ Below w.heap.size w wr) (fun s5 _ => L.length - (intOf s5).toNat)
  case atStart => exact ⟨0, by omega, rfl, Below.refl _ _⟩
  case round =>
    obtain ⟨k, hk, rfl, hB⟩ := hrel
    by_cases hlt : k < L.length
    · have hur := hu.pure hB
      have hvr := hv.pure hB
      obtain ⟨g, off, rfl⟩ := hur.addr hlt
      obtain ⟨h, oft, rfl⟩ := hvr.addr hlt
      obtain ⟨c0, c1, c2, c3, c4⟩ := asc_cells hur hlt
      obtain ⟨d0, d1, d2, d3, d4⟩ := asc_cells hvr hlt
      have hqn := fun (x : World) => asc_neq_self x L[k].1 L[k].2.1.1 L[k].2.1.2.1 L[k].2.1.2.2 L[k].2.2
      go_wp2
      go_quiet (fail)
      go_wp2
      go_roundw
      case rel => exact ⟨k + 1, by omega, by go_num, below_drewN hB _⟩
      case measure => simp [intOf]; omega
    · obtain rfl : k = L.length := by omega
      go_wp2
      go_ret
      exact ⟨rfl, hB⟩
end Go.Proofs.Ytcelpincmpjhkaa

/- Document's side of chapter 18: Copy. Conditions: at most a million. -/
namespace Go.Proofs.Ytcelpincmpjhkaa
set_option linter.unusedSimpArgs false
set_option linter.unusedVariables false
open Go.RowKit

set_option maxRecDepth 100000 in
set_option maxHeartbeats 1600000 in
theorem rcopy (w : World) (v : Value) (L : List Asc) (h : Slc ascEnc 5 w v L) (hL : L.length ≤ 1000000) :
    Calls Try.prog 46 #[v] w fun e w' => ∃ r, e = .returned r ∧ Own w.heap.size 57 5 ascEnc w' r L ∧ Below w.heap.size w w' := by
  obtain ⟨a, n, cap, rfl⟩ := h.shape3
  go_enter Try.func46, Try.ntmps46
  go_wp2_with (at_builtin; refine wpList_app rfl _ _ 23 57 rfl elem_asc ascEnc_len ascEnc_one _ ([] : List Asc) rfl (Own.nil (base := w.heap.size)) _ L rfl h (by unfold maxLen; simp <;> omega) (by simp <;> omega) (Nat.le_refl _) ?_; intro v' w2 hown hgr hfr hsh; obtain ⟨ra, rc, rfl⟩ := own_len hown)
  go_ret
  rw [List.nil_append] at hown
  exact ⟨_, rfl, hown, (Below.refl _ _).grown hgr (Nat.le_refl _) (fun j e => by simp [Value.ownBlock, Act.eval] at e)⟩
end Go.Proofs.Ytcelpincmpjhkaa

/- Document's side of chapter 18: posthouseref04.less. Conditions: texts of at most a million bytes. -/
namespace Go.Proofs.Ytcelpincmpjhkaa
set_option linter.unusedSimpArgs false
set_option linter.unusedVariables false
open Go.RowKit

theorem byte_at (a : ByteArray) (k : Nat) (h : k < a.size) : a[k] = a.data.toList[k]'(by simpa using h) := by simp [ByteArray.getElem_eq_getElem_data]

set_option maxRecDepth 100000 in
set_option maxHeartbeats 1600000 in
theorem less_any (w : World) (a b : ByteArray) (ha : a.size ≤ 1000000) (hb : b.size ≤ 1000000) :
    Calls Try.prog 111 #[.string a, .string b] w fun e w' => e = .returned (.bool (decide (cmpB a b < 0))) ∧ Below w.heap.size w w' := by
  have la : a.data.toList.length = a.size := by simp
  have lb : b.data.toList.length = b.size := by simp
  have la' := Lib.hid la; have lb' := Lib.hid lb; clear la lb
  go_enter Try.func111, Try.ntmps111
  go_wp2
  go_loopw [5] (fun s5 wr => ∃ k : Nat, k ≤ a.size ∧ k ≤ b.size ∧ s5 = .int .i64 k ∧ cmpB a b = Lib.compareBytes (a.data.toList.drop k) (b.data.toList.drop k) ∧ Below w.heap.size w wr) (fun s5 _ => a.size - (intOf s5).toNat)
  case atStart => exact ⟨0, by omega, by omega, rfl, rfl, Below.refl _ _⟩
  case round =>
    obtain ⟨k, hk, hk2, rfl, hc, hB⟩ := hrel
    have hc' := Lib.hid hc; clear hc
    by_cases h1 : k < a.size
    · by_cases h2 : k < b.size
      · have i1 : (0 : Int) ≤ (k : Int) ∧ (k : Int) < (a.size : Int) := by omega
        have i2 : (0 : Int) ≤ (k : Int) ∧ (k : Int) < (b.size : Int) := by omega
        have e1 := Lib.hid (byte_at a k h1)
        have e2 := Lib.hid (byte_at b k h2)
        have hab : k < a.data.toList.length := by rw [la'.out]; exact h1
        have hbb : k < b.data.toList.length := by rw [lb'.out]; exact h2
        have c1 := Lib.hid (cb_step a.data.toList b.data.toList k hab hbb)
        have c2 := Lib.hid (cb_lt a.data.toList b.data.toList k hab hbb)
        have c3 := Lib.hid (cb_gt a.data.toList b.data.toList k hab hbb)
        obtain ⟨p, hp⟩ : ∃ p, p = a.data.toList[k] := ⟨_, rfl⟩
        obtain ⟨q, hq⟩ : ∃ q, q = b.data.toList[k] := ⟨_, rfl⟩
        rw [← hp] at c1 c2 c3 e1
        rw [← hq] at c1 c2 c3 e2
        clear hp hq hab hbb
        have a1 := e1.out
        have a2 := e2.out
        by_cases hpq : p = q
        · have hn : ((a[k].toNat : Int) != (b[k].toNat : Int)) = false := by rw [a1, a2, hpq]; simp
          clear a1 a2
          go_wp2
          go_quiet (fail)
          go_wp2
          go_roundw
          case rel => exact ⟨k + 1, by omega, by omega, by go_num, by rw [hc'.out]; exact c1.out hpq, below_drewN hB _⟩
          case measure => simp [intOf]; omega
        · have hpn : p.toNat ≠ q.toNat := fun e => hpq (UInt8.toNat_inj.1 e)
          have hn : ((a[k].toNat : Int) != (b[k].toNat : Int)) = true := by rw [a1, a2]; simp; omega
          have hres : decide (a[k].toNat < b[k].toNat) = decide (cmpB a b < 0) := by
            rw [a1, a2, hc'.out]
            rcases Nat.lt_or_ge p.toNat q.toNat with l | l
            · rw [c2.out (UInt8.lt_iff_toNat_lt.2 l)]; simp; omega
            · rw [c3.out (UInt8.lt_iff_toNat_lt.2 (by omega))]; simp; omega
          have hres' := Lib.hid hres; clear hres a1 a2
          go_wp2
          go_quiet (fail)
          go_wp2
          go_quiet (fail)
          go_wp2
          go_ret
          exact ⟨by rw [← hres'.out]; rfl, below_drewN (below_drewN hB _) _⟩
      · have hE := Lib.hid (cb_end a.data.toList b.data.toList k (Or.inr (by rw [lb'.out]; omega)) (by rw [la'.out]; exact hk) (by rw [lb'.out]; exact hk2))
        go_wp2
        go_ret
        refine ⟨?_, hB⟩
        have := hE.out
        rw [← hc'.out, la'.out, lb'.out] at this
        simp [this]
    · have hE := Lib.hid (cb_end a.data.toList b.data.toList k (Or.inl (by rw [la'.out]; omega)) (by rw [la'.out]; exact hk) (by rw [lb'.out]; exact hk2))
      go_wp2
      go_ret
      refine ⟨?_, hB⟩
      have := hE.out
      rw [← hc'.out, la'.out, lb'.out] at this
      simp [this]
end Go.Proofs.Ytcelpincmpjhkaa

/- Document's side of chapter 18: posthouseref04.Compare. Conditions: texts of at most a million bytes. Written by gen_acompare.py. -/
namespace Go.Proofs.Ytcelpincmpjhkaa
set_option linter.unusedSimpArgs false
set_option linter.unusedVariables false
open Go.RowKit

/-- The sign of the order of two names. -/
def signX (x y : Xid) : Int := if cmpX x y = 0 then 0 else if cmpX x y < 0 then -1 else 1
theorem bytes_ne {a b : ByteArray} (h : a ≠ b) : (a == b) = false := by rw [bytes_beq_eq]; exact decide_eq_false h
theorem cmpI_neg {x y : Int} : cmpI x y < 0 ↔ x < y := by unfold cmpI; split <;> (try split) <;> omega
theorem signX_of {x y : Xid} {c : Int} (h : cmpX x y = c) (h0 : c ≠ 0) : signX x y = if c < 0 then -1 else 1 := by unfold signX; rw [h, if_neg h0]

set_option maxRecDepth 100000 in
set_option maxHeartbeats 3200000 in
theorem rcompare (w : World) (x y : Xid) (hxg : x.2.1.size ≤ 1000000) (hxb : x.2.2.size ≤ 1000000) (hyg : y.2.1.size ≤ 1000000) (hyb : y.2.2.size ≤ 1000000) :
    Calls Try.prog 74 #[.agg #[.int .u32 x.1, .string x.2.1, .string x.2.2], .agg #[.int .u32 y.1, .string y.2.1, .string y.2.2]] w fun e w' => e = .returned (.int .i64 (signX x y)) ∧ Below w.heap.size w w' := by
  obtain ⟨xf, xg, xb⟩ := x
  obtain ⟨yf, yg, yb⟩ := y
  simp only at hxg hxb hyg hyb ⊢
  have hB0 : Below w.heap.size w ((w.alloc (.cells #[.int .u32 xf, .string xg, .string xb] 28)).alloc (.cells #[.int .u32 yf, .string yg, .string yb] 28)) := ((Below.refl w.heap.size w).alloc (Nat.le_refl _) _).alloc (by simp) _
  have x0 : Blk ((w.alloc (.cells #[.int .u32 xf, .string xg, .string xb] 28)).alloc (.cells #[.int .u32 yf, .string yg, .string yb] 28)) w.heap.size [.int .u32 xf, .string xg, .string xb] := (Blk.new w [.int .u32 xf, .string xg, .string xb] 28).alloc _
  have y0 : Blk ((w.alloc (.cells #[.int .u32 xf, .string xg, .string xb] 28)).alloc (.cells #[.int .u32 yf, .string yg, .string yb] 28)) (w.heap.size + 1) [.int .u32 yf, .string yg, .string yb] := by have := Blk.new (w.alloc (.cells #[.int .u32 xf, .string xg, .string xb] 28)) [.int .u32 yf, .string yg, .string yb] 28; simpa using this
  have qE := fun (u : World) => xid_eql u xf yf xg xb yg yb
  by_cases hf : xf = yf
  · subst hf
    have hff : (xf == xf) = true := by simp
    have hfn : (xf != xf) = false := by simp
    by_cases hg : xg = yg
    · subst hg
      have hg1 := bytes_self xg
      have hg2 : (xg.toList == xg.toList) = true := by simp
      by_cases hb : xb = yb
      · subst hb
        have hX := Lib.hid (show signX (xf, xg, xb) (xf, xg, xb) = 0 by unfold signX; rw [if_pos (cmpX_ok.refl _)])
        simp only [hff, hg1, bytes_self, Bool.true_and] at qE
        clear hff hfn hg1 hg2
        go_enter Try.func74, Try.ntmps74
        go_wp2_with (first | (go_at_call 111; (refine (less_any _ _ _ ?_ ?_).mono ?_; assumption; assumption; rintro e w1 ⟨rfl, hB1⟩; have x1 := x0.pure hB1; have y1 := y0.pure hB1; have hT1 := hB0.trans (hB1.mono hB0.size); have e0 := x1.at 0 rfl; have e1 := x1.at 1 rfl; have e2 := x1.at 2 rfl; have e3 := y1.at 0 rfl; have e4 := y1.at 1 rfl; have e5 := y1.at 2 rfl)) | (go_at_call 111; (refine (less_any _ _ _ ?_ ?_).mono ?_; assumption; assumption; rintro e w2 ⟨rfl, hB2⟩; have x2 := x1.pure hB2; have y2 := y1.pure hB2; have hT2 := hT1.trans (hB2.mono hT1.size); have f0 := x2.at 0 rfl; have f1 := x2.at 1 rfl; have f2 := x2.at 2 rfl; have f3 := y2.at 0 rfl; have f4 := y2.at 1 rfl; have f5 := y2.at 2 rfl)))
        go_ret
        exact ⟨by rw [hX.out]; rfl, hB0⟩
      · have hb1 := bytes_ne hb
        have hc0 : cmpB xb yb ≠ 0 := fun e => hb ((cmpB_ok.eq _ _).1 e)
        have hX := Lib.hid (signX_of (cmpX_b (xf := xf) (xg := xg) (xb := xb) (yb := yb)) hc0)
        simp only [hff, hg1, hb1, Bool.true_and] at qE
        clear hb hc0 hff hg1 hb1
        by_cases hlt : cmpB xb yb < 0
        · rw [if_pos hlt] at hX
          go_enter Try.func74, Try.ntmps74
          go_wp2_with (first | (go_at_call 111; (refine (less_any _ _ _ ?_ ?_).mono ?_; assumption; assumption; rintro e w1 ⟨rfl, hB1⟩; have x1 := x0.pure hB1; have y1 := y0.pure hB1; have hT1 := hB0.trans (hB1.mono hB0.size); have e0 := x1.at 0 rfl; have e1 := x1.at 1 rfl; have e2 := x1.at 2 rfl; have e3 := y1.at 0 rfl; have e4 := y1.at 1 rfl; have e5 := y1.at 2 rfl)) | (go_at_call 111; (refine (less_any _ _ _ ?_ ?_).mono ?_; assumption; assumption; rintro e w2 ⟨rfl, hB2⟩; have x2 := x1.pure hB2; have y2 := y1.pure hB2; have hT2 := hT1.trans (hB2.mono hT1.size); have f0 := x2.at 0 rfl; have f1 := x2.at 1 rfl; have f2 := x2.at 2 rfl; have f3 := y2.at 0 rfl; have f4 := y2.at 1 rfl; have f5 := y2.at 2 rfl)))
          go_ret
          exact ⟨by rw [hX.out]; rfl, hT1⟩
        · rw [if_neg hlt] at hX
          go_enter Try.func74, Try.ntmps74
          go_wp2_with (first | (go_at_call 111; (refine (less_any _ _ _ ?_ ?_).mono ?_; assumption; assumption; rintro e w1 ⟨rfl, hB1⟩; have x1 := x0.pure hB1; have y1 := y0.pure hB1; have hT1 := hB0.trans (hB1.mono hB0.size); have e0 := x1.at 0 rfl; have e1 := x1.at 1 rfl; have e2 := x1.at 2 rfl; have e3 := y1.at 0 rfl; have e4 := y1.at 1 rfl; have e5 := y1.at 2 rfl)) | (go_at_call 111; (refine (less_any _ _ _ ?_ ?_).mono ?_; assumption; assumption; rintro e w2 ⟨rfl, hB2⟩; have x2 := x1.pure hB2; have y2 := y1.pure hB2; have hT2 := hT1.trans (hB2.mono hT1.size); have f0 := x2.at 0 rfl; have f1 := x2.at 1 rfl; have f2 := x2.at 2 rfl; have f3 := y2.at 0 rfl; have f4 := y2.at 1 rfl; have f5 := y2.at 2 rfl)))
          go_ret
          exact ⟨by rw [hX.out]; rfl, hT1⟩
    · have hg1 := bytes_ne hg
      have hg2 : (xg.toList == yg.toList) = false := by rw [← beq_toListBytes]; exact hg1
      have hc0 : cmpB xg yg ≠ 0 := fun e => hg ((cmpB_ok.eq _ _).1 e)
      have hX := Lib.hid (signX_of (cmpX_g (xf := xf) (xb := xb) (yb := yb) hg) hc0)
      simp only [hff, hg1, Bool.true_and, Bool.false_and] at qE
      clear hg hc0 hff hg1
      by_cases hlt : cmpB xg yg < 0
      · rw [if_pos hlt] at hX
        go_enter Try.func74, Try.ntmps74
        go_wp2_with (first | (go_at_call 111; (refine (less_any _ _ _ ?_ ?_).mono ?_; assumption; assumption; rintro e w1 ⟨rfl, hB1⟩; have x1 := x0.pure hB1; have y1 := y0.pure hB1; have hT1 := hB0.trans (hB1.mono hB0.size); have e0 := x1.at 0 rfl; have e1 := x1.at 1 rfl; have e2 := x1.at 2 rfl; have e3 := y1.at 0 rfl; have e4 := y1.at 1 rfl; have e5 := y1.at 2 rfl)) | (go_at_call 111; (refine (less_any _ _ _ ?_ ?_).mono ?_; assumption; assumption; rintro e w2 ⟨rfl, hB2⟩; have x2 := x1.pure hB2; have y2 := y1.pure hB2; have hT2 := hT1.trans (hB2.mono hT1.size); have f0 := x2.at 0 rfl; have f1 := x2.at 1 rfl; have f2 := x2.at 2 rfl; have f3 := y2.at 0 rfl; have f4 := y2.at 1 rfl; have f5 := y2.at 2 rfl)))
        go_ret
        exact ⟨by rw [hX.out]; rfl, hT2⟩
      · rw [if_neg hlt] at hX
        go_enter Try.func74, Try.ntmps74
        go_wp2_with (first | (go_at_call 111; (refine (less_any _ _ _ ?_ ?_).mono ?_; assumption; assumption; rintro e w1 ⟨rfl, hB1⟩; have x1 := x0.pure hB1; have y1 := y0.pure hB1; have hT1 := hB0.trans (hB1.mono hB0.size); have e0 := x1.at 0 rfl; have e1 := x1.at 1 rfl; have e2 := x1.at 2 rfl; have e3 := y1.at 0 rfl; have e4 := y1.at 1 rfl; have e5 := y1.at 2 rfl)) | (go_at_call 111; (refine (less_any _ _ _ ?_ ?_).mono ?_; assumption; assumption; rintro e w2 ⟨rfl, hB2⟩; have x2 := x1.pure hB2; have y2 := y1.pure hB2; have hT2 := hT1.trans (hB2.mono hT1.size); have f0 := x2.at 0 rfl; have f1 := x2.at 1 rfl; have f2 := x2.at 2 rfl; have f3 := y2.at 0 rfl; have f4 := y2.at 1 rfl; have f5 := y2.at 2 rfl)))
        go_ret
        exact ⟨by rw [hX.out]; rfl, hT2⟩
  · have hc0 : cmpI xf yf ≠ 0 := fun e => hf ((cmpI_ok.eq _ _).1 e)
    have hX := Lib.hid (signX_of (cmpX_f (xg := xg) (xb := xb) (yg := yg) (yb := yb) hf) hc0)
    simp only [cmpI_neg] at hX
    have hff : (xf == yf) = false := beq_eq_false_iff_ne.2 hf
    have hfn : (xf != yf) = true := by simp [bne, hff]
    simp only [hff, Bool.false_and] at qE
    clear hc0 hf hff
    by_cases hg : xg = yg
    · subst hg
      have hg2 : (xg.toList == xg.toList) = true := by simp
      by_cases hlt : xf < yf
      · rw [if_pos hlt] at hX
        go_enter Try.func74, Try.ntmps74
        go_wp2_with (first | (go_at_call 111; (refine (less_any _ _ _ ?_ ?_).mono ?_; assumption; assumption; rintro e w1 ⟨rfl, hB1⟩; have x1 := x0.pure hB1; have y1 := y0.pure hB1; have hT1 := hB0.trans (hB1.mono hB0.size); have e0 := x1.at 0 rfl; have e1 := x1.at 1 rfl; have e2 := x1.at 2 rfl; have e3 := y1.at 0 rfl; have e4 := y1.at 1 rfl; have e5 := y1.at 2 rfl)) | (go_at_call 111; (refine (less_any _ _ _ ?_ ?_).mono ?_; assumption; assumption; rintro e w2 ⟨rfl, hB2⟩; have x2 := x1.pure hB2; have y2 := y1.pure hB2; have hT2 := hT1.trans (hB2.mono hT1.size); have f0 := x2.at 0 rfl; have f1 := x2.at 1 rfl; have f2 := x2.at 2 rfl; have f3 := y2.at 0 rfl; have f4 := y2.at 1 rfl; have f5 := y2.at 2 rfl)))
        go_ret
        exact ⟨by rw [hX.out]; rfl, hT1⟩
      · rw [if_neg hlt] at hX
        go_enter Try.func74, Try.ntmps74
        go_wp2_with (first | (go_at_call 111; (refine (less_any _ _ _ ?_ ?_).mono ?_; assumption; assumption; rintro e w1 ⟨rfl, hB1⟩; have x1 := x0.pure hB1; have y1 := y0.pure hB1; have hT1 := hB0.trans (hB1.mono hB0.size); have e0 := x1.at 0 rfl; have e1 := x1.at 1 rfl; have e2 := x1.at 2 rfl; have e3 := y1.at 0 rfl; have e4 := y1.at 1 rfl; have e5 := y1.at 2 rfl)) | (go_at_call 111; (refine (less_any _ _ _ ?_ ?_).mono ?_; assumption; assumption; rintro e w2 ⟨rfl, hB2⟩; have x2 := x1.pure hB2; have y2 := y1.pure hB2; have hT2 := hT1.trans (hB2.mono hT1.size); have f0 := x2.at 0 rfl; have f1 := x2.at 1 rfl; have f2 := x2.at 2 rfl; have f3 := y2.at 0 rfl; have f4 := y2.at 1 rfl; have f5 := y2.at 2 rfl)))
        go_ret
        exact ⟨by rw [hX.out]; rfl, hT1⟩
    · have hg2 : (xg.toList == yg.toList) = false := by rw [← beq_toListBytes]; exact bytes_ne hg
      clear hg
      by_cases hlt : xf < yf
      · rw [if_pos hlt] at hX
        go_enter Try.func74, Try.ntmps74
        go_wp2_with (first | (go_at_call 111; (refine (less_any _ _ _ ?_ ?_).mono ?_; assumption; assumption; rintro e w1 ⟨rfl, hB1⟩; have x1 := x0.pure hB1; have y1 := y0.pure hB1; have hT1 := hB0.trans (hB1.mono hB0.size); have e0 := x1.at 0 rfl; have e1 := x1.at 1 rfl; have e2 := x1.at 2 rfl; have e3 := y1.at 0 rfl; have e4 := y1.at 1 rfl; have e5 := y1.at 2 rfl)) | (go_at_call 111; (refine (less_any _ _ _ ?_ ?_).mono ?_; assumption; assumption; rintro e w2 ⟨rfl, hB2⟩; have x2 := x1.pure hB2; have y2 := y1.pure hB2; have hT2 := hT1.trans (hB2.mono hT1.size); have f0 := x2.at 0 rfl; have f1 := x2.at 1 rfl; have f2 := x2.at 2 rfl; have f3 := y2.at 0 rfl; have f4 := y2.at 1 rfl; have f5 := y2.at 2 rfl)))
        go_ret
        exact ⟨by rw [hX.out]; rfl, hT2⟩
      · rw [if_neg hlt] at hX
        go_enter Try.func74, Try.ntmps74
        go_wp2_with (first | (go_at_call 111; (refine (less_any _ _ _ ?_ ?_).mono ?_; assumption; assumption; rintro e w1 ⟨rfl, hB1⟩; have x1 := x0.pure hB1; have y1 := y0.pure hB1; have hT1 := hB0.trans (hB1.mono hB0.size); have e0 := x1.at 0 rfl; have e1 := x1.at 1 rfl; have e2 := x1.at 2 rfl; have e3 := y1.at 0 rfl; have e4 := y1.at 1 rfl; have e5 := y1.at 2 rfl)) | (go_at_call 111; (refine (less_any _ _ _ ?_ ?_).mono ?_; assumption; assumption; rintro e w2 ⟨rfl, hB2⟩; have x2 := x1.pure hB2; have y2 := y1.pure hB2; have hT2 := hT1.trans (hB2.mono hT1.size); have f0 := x2.at 0 rfl; have f1 := x2.at 1 rfl; have f2 := x2.at 2 rfl; have f3 := y2.at 0 rfl; have f4 := y2.at 1 rfl; have f5 := y2.at 2 rfl)))
        go_ret
        exact ⟨by rw [hX.out]; rfl, hT2⟩
end Go.Proofs.Ytcelpincmpjhkaa
