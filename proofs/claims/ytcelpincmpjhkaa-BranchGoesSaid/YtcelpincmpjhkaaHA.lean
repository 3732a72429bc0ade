/- Package branch: row, at. Conditions: the table reads as rows; at most a million. Written by gen_brC.py. (Texts joined; the heads of the others stand below.) -/
import Derived.Test.YtcelpincmpjhkaaAssocI
import Derived.Test.YtcelpincmpjhkaaGA

/- Chapter 19 in plain lists: tables of branches, what is right, what each call leaves. Conditions: none. -/
namespace Go.Proofs.Ytcelpincmpjhkaa
set_option linter.unusedSimpArgs false
set_option linter.unusedVariables false
open Go.RowKit

/-- A branch of a table. -/
structure Brn where
  x : Xid
  st : Int
  why : Int
  tm : Int
  lf : Int
theorem Brn.ext' {a b : Brn} (h1 : a.x = b.x) (h2 : a.st = b.st) (h3 : a.why = b.why) (h4 : a.tm = b.tm) (h5 : a.lf = b.lf) : a = b := by cases a; cases b; simp_all
def brEnc (b : Brn) : List Value := [.int .u32 b.x.1, .string b.x.2.1, .string b.x.2.2, .int .u8 b.st, .int .u8 b.why, .int .u32 b.tm, .int .u32 b.lf]
theorem brEnc_len (b : Brn) : (brEnc b).length = 7 := rfl
theorem brEnc_one (b : Brn) : ∀ u ∈ brEnc b, u.oneCell' = true := by simp [brEnc, Value.oneCell']

def RowOk (b : Brn) : Prop := XidOk b.x ∧ 1 ≤ b.st ∧ b.st ≤ 4 ∧ b.why ≤ 2 ∧ if b.st ≠ 1 ∨ b.why ≠ 0 ∨ b.tm = 0 then b.lf = 0 ∧ (b.st = 1 ∨ b.why = 0) else 1 ≤ b.lf ∧ b.lf ≤ b.tm
instance (b : Brn) : Decidable (RowOk b) := by unfold RowOk; infer_instance
abbrev RisesB (R : List Brn) : Prop := R.Pairwise (fun a b => cmpX a.x b.x < 0)
def TabOk (R : List Brn) (A : List Asc) : Prop := ((∀ b ∈ R, RowOk b) ∧ RisesB R) ∧ RowA A ∧ ∀ a ∈ A, ∃ b ∈ R, b.x = a.2.1 ∧ b.st = 1
noncomputable def tabE (R : List Brn) (A : List Asc) : Int := @ite _ (TabOk R A) (Classical.propDecidable _) 0 190
theorem tabE_yes {R : List Brn} {A : List Asc} (h : TabOk R A) : tabE R A = 0 := by unfold tabE; rw [if_pos h]
theorem tabE_no {R : List Brn} {A : List Asc} (h : ¬ TabOk R A) : tabE R A = 190 := by unfold tabE; rw [if_neg h]
theorem tabE_cases (R : List Brn) (A : List Asc) : (TabOk R A ∧ tabE R A = 0) ∨ (¬ TabOk R A ∧ tabE R A = 190) := by
  rcases Classical.em (TabOk R A) with h | h
  · exact .inl ⟨h, tabE_yes h⟩
  · exact .inr ⟨h, tabE_no h⟩
noncomputable def mayB (R : List Brn) (A : List Asc) (ok : Bool) (x : Xid) : Int := if tabE R A ≠ 0 then 190 else if ok = false then 2 else if XidOk x then 0 else 40
theorem mayB_zero {R : List Brn} {A : List Asc} {ok : Bool} {x : Xid} (h : mayB R A ok x = 0) : TabOk R A ∧ ok = true ∧ XidOk x := by
  unfold mayB at h
  rcases tabE_cases R A with ⟨h1, h2⟩ | ⟨h1, h2⟩
  · rw [h2, if_neg (by simp)] at h
    cases ok
    · simp at h
    · rw [if_neg (by simp)] at h
      by_cases hx : XidOk x
      · exact ⟨h1, rfl, hx⟩
      · rw [if_neg hx] at h; omega
  · rw [h2, if_pos (by simp)] at h; omega

/-! ### the place of a name -/
def MemB (R : List Brn) (x : Xid) : Prop := ∃ k, ∃ h : k < R.length, R[k].x = x
noncomputable def idxB (R : List Brn) (x : Xid) : Option Nat := by classical exact if h : MemB R x then some h.choose else none
theorem idxB_no {R : List Brn} {x : Xid} (h : ¬ MemB R x) : idxB R x = none := by unfold idxB; rw [dif_neg h]
theorem cmpX_zero {a b : Xid} : cmpX a b = 0 ↔ a = b := cmpX_ok.eq _ _
theorem sameB_idx {R : List Brn} (hr : RisesB R) {i k : Nat} (hi : i < R.length) (hk : k < R.length) (he : R[i].x = R[k].x) : i = k := by
  have hz : cmpX R[i].x R[k].x = 0 := cmpX_zero.2 he
  rcases Nat.lt_trichotomy i k with h | h | h
  · have := List.pairwise_iff_getElem.1 hr i k hi hk h; omega
  · exact h
  · have := List.pairwise_iff_getElem.1 hr k i hk hi h; have h2 := cmpX_ok.anti R[i].x R[k].x; omega
theorem idxB_yes {R : List Brn} {x : Xid} {k : Nat} (hr : RisesB R) (hk : k < R.length) (he : R[k].x = x) : idxB R x = some k := by
  have hm : MemB R x := ⟨k, hk, he⟩
  unfold idxB
  rw [dif_pos hm]
  obtain ⟨h, e⟩ := hm.choose_spec
  rw [sameB_idx hr h hk (e.trans he.symm)]
def PlaceB (R : List Brn) (x : Xid) (i : Nat) : Prop := i ≤ R.length ∧ (∀ j, (h : j < R.length) → j < i → cmpX R[j].x x < 0) ∧ ∀ j, (h : j < R.length) → i ≤ j → 0 ≤ cmpX R[j].x x
noncomputable def placeM (R : List Brn) (x : Xid) : Nat := by classical exact if h : ∃ i, PlaceB R x i then h.choose else 0
theorem placeB_eq {R : List Brn} {x : Xid} {i : Nat} (h : PlaceB R x i) : placeM R x = i := by
  have hm : ∃ i, PlaceB R x i := ⟨i, h⟩
  unfold placeM
  rw [dif_pos hm]
  have h2 := hm.choose_spec
  generalize hm.choose = j at h2
  rcases Nat.lt_trichotomy j i with q | q | q
  · have := h.2.1 j (by have := h.1; omega) q; have := h2.2.2 j (by have := h.1; omega) (Nat.le_refl _); omega
  · exact q
  · have := h2.2.1 i (by have := h2.1; omega) q; have := h.2.2 i (by have := h2.1; omega) (Nat.le_refl _); omega
theorem placeB_at {R : List Brn} {x : Xid} {i k : Nat} (hr : RisesB R) (hp : PlaceB R x i) (hk : k < R.length) (he : R[k].x = x) : k = i := by
  obtain ⟨h0, h1, h2⟩ := hp
  have hz : cmpX R[k].x x = 0 := cmpX_zero.2 he
  rcases Nat.lt_trichotomy k i with h | h | h
  · have := h1 k hk h; omega
  · exact h
  · have h3 : cmpX (R[i]'(by omega)).x R[k].x < 0 := List.pairwise_iff_getElem.1 hr i k (by omega) hk h
    have h4 := cmpX_ok.lt_le h3 (Int.le_of_eq hz)
    have h5 := h2 i (by omega) (Nat.le_refl _)
    omega
def insB (R : List Brn) (i : Nat) (b : Brn) : List Brn := R.take i ++ b :: R.drop i
theorem bytes_beq_eq' (a b : ByteArray) : (a == b) = decide (a = b) := by
  rw [beq_toListBytes]
  by_cases h : a = b
  · subst h; simp
  · rw [decide_eq_false h]
    apply beq_eq_false_iff_ne.2
    intro e
    apply h
    have : a.data.toList = b.data.toList := by rw [ByteArray.toList_eq, ByteArray.toList_eq] at e; exact e
    cases a; cases b; simp only [ByteArray.mk.injEq]; exact Array.toList_inj.1 this
theorem neX_decide (a b : Xid) : (a != b) = decide (a ≠ b) := by
  obtain ⟨a1, a2, a3⟩ := a
  obtain ⟨b1, b2, b3⟩ := b
  show (!(a1 == b1 && (a2 == b2 && a3 == b3))) = _
  rw [bytes_beq_eq', bytes_beq_eq']
  by_cases h1 : a1 = b1 <;> by_cases h2 : a2 = b2 <;> by_cases h3 : a3 = b3 <;> simp [h1, h2, h3]
def withoutB (R : List Brn) (x : Xid) : List Brn := R.filter (fun b => b.x != x)
theorem without_all {R : List Brn} {x : Xid} (h : ¬ MemB R x) : withoutB R x = R := by
  unfold withoutB
  rw [List.filter_eq_self]
  intro b hb
  rw [neX_decide]
  refine decide_eq_true (fun e => h ?_)
  obtain ⟨k, hk, rfl⟩ := List.getElem_of_mem hb
  exact ⟨k, hk, e⟩

/-! ### the calls -/
abbrev Res := List Brn × List Asc × Int × Int
def errR (e : Int) : Res := ([], [], 0, e)
def Brn.spoil (b : Brn) (y : Int) : Brn := { b with why := if b.why = 0 then y else b.why, lf := 0 }
def newB (x : Xid) (s : Int) : Brn := ⟨x, s, 0, 0, 0⟩
noncomputable def startD (R : List Brn) (A : List Asc) (s : Int) (x : Xid) (join resume : Bool) : Res :=
  if (actA A s).isSome = true then errR 9 else
  if join = false ∧ resume = false then (match idxB R x with
    | some _ => errR 8
    | none => if (startF A s x).2 = 0 then (insB R (placeM R x) (newB x 1), (startF A s x).1, 0, 0) else errR 9)
  else match idxB R x with
    | none => errR 7
    | some k => if (R.getD k (newB x 0)).st ≠ 1 then errR 9 else
      if (R.getD k (newB x 0)).why ≠ 0 then (R, A, (R.getD k (newB x 0)).why, 0) else
      if resume = true then (if (resumeF A s x).2 = 0 then (R, (resumeF A s x).1, 0, 0) else errR 9)
      else (if (startF A s x).2 = 0 then (R, (startF A s x).1, 0, 0) else errR 9)
noncomputable def endD (R : List Brn) (A : List Asc) (s : Int) (x : Xid) (fail susp : Bool) : Res :=
  match idxB R x with
  | none => errR 7
  | some k => match idxA A s x with
    | none => errR 9
    | some j => if susp = true ∧ (A.getD j (0, noX, false)).2.2 = true then errR 9 else
      if susp = true ∧ (R.getD k (newB x 0)).why = 0 then (R, (suspendF A s x).1, 0, 0) else
      if fail = true then (R.set k ((R.getD k (newB x 0)).spoil 1), (endF A s x).1, ((R.getD k (newB x 0)).spoil 1).why, 0)
      else (R, (endF A s x).1, (R.getD k (newB x 0)).why, 0)
noncomputable def prepareD (R : List Brn) (A : List Asc) (x : Xid) (empty : Bool) : Res :=
  match idxB R x with
  | none => errR 7
  | some k => if (R.getD k (newB x 0)).st ≠ 1 ∨ cntA A x > 0 then errR 9 else
    if (R.getD k (newB x 0)).why ≠ 0 then (withoutB R x, A, (R.getD k (newB x 0)).why, 0) else
    if empty = true then (withoutB R x, A, 7, 0) else (R.set k { R.getD k (newB x 0) with st := 2, lf := 0 }, A, 0, 0)
def answerD (s : Int) : Int := if s = 3 then 4 else if s = 4 then 5 else 0
noncomputable def commitD (R : List Brn) (A : List Asc) (x : Xid) (one : Bool) : Res :=
  match idxB R x with
  | none => errR 7
  | some k => if answerD (R.getD k (newB x 0)).st ≠ 0 then (R, A, answerD (R.getD k (newB x 0)).st, 0) else
    if (R.getD k (newB x 0)).st ≠ (if one = true then 1 else 2) ∨ cntA A x > 0 then errR 9 else (withoutB R x, A, (R.getD k (newB x 0)).why, 0)
noncomputable def rollbackD (R : List Brn) (A : List Asc) (x : Xid) : Res :=
  match idxB R x with
  | none => errR 7
  | some k => if answerD (R.getD k (newB x 0)).st ≠ 0 then (R, A, answerD (R.getD k (newB x 0)).st, 0) else
    if cntA A x > 0 then errR 9 else (withoutB R x, A, 0, 0)
noncomputable def forgetD (R : List Brn) (A : List Asc) (x : Xid) : Res :=
  match idxB R x with
  | none => errR 7
  | some k => if answerD (R.getD k (newB x 0)).st ≠ 0 then (withoutB R x, A, 0, 0) else errR 9
noncomputable def decideD (R : List Brn) (A : List Asc) (x : Xid) (commit : Bool) : Res :=
  match idxB R x with
  | none => errR 7
  | some k => if (R.getD k (newB x 0)).st = 2 then (R.set k { R.getD k (newB x 0) with st := if commit = true then 3 else 4 }, A, 0, 0) else errR 9
noncomputable def spoilD (R : List Brn) (A : List Asc) (x : Xid) : Res :=
  match idxB R x with
  | none => errR 7
  | some k => if (R.getD k (newB x 0)).st = 1 then (R.set k ((R.getD k (newB x 0)).spoil 1), A, 0, 0) else errR 9
noncomputable def timeoutD (R : List Brn) (A : List Asc) (x : Xid) (n : Int) : Res :=
  match idxB R x with
  | none => errR 7
  | some k => if (R.getD k (newB x 0)).st = 1 then (R.set k { R.getD k (newB x 0) with tm := n, lf := if (R.getD k (newB x 0)).why = 0 then n else (R.getD k (newB x 0)).lf }, A, 0, 0) else errR 9
noncomputable def restoreD (R : List Brn) (A : List Asc) (x : Xid) (s : Int) : Res :=
  match idxB R x with
  | some _ => errR 8
  | none => (insB R (placeM R x) (newB x s), A, 0, 0)
noncomputable def overB (m : Int) (d : Res) : Res := if m = 0 then d else errR m
end Go.Proofs.Ytcelpincmpjhkaa

/- Chapter 19: the table's rows as elements of a slice. Conditions: none. -/
namespace Go.Proofs.Ytcelpincmpjhkaa
set_option linter.unusedSimpArgs false
set_option linter.unusedVariables false
open Go.RowKit
theorem info_br : (Try.prog.info? 44).map (fun i => (i.zero, i.size, i.bytes)) = some (some (.agg #[.int .u32 0, .string ⟨#[]⟩, .string ⟨#[]⟩, .int .u8 0, .int .u8 0, .int .u32 0, .int .u32 0]), 7, 56) := by kernel_rfl
theorem elem_br : ElemT Try.prog 22 44 7 56 := ElemT.mk' Try.underlying22 info_br rfl (by omega)
theorem br_cells {w : World} {g off n cap k : Nat} {L : List Brn} (h : Slc brEnc 7 w (.slice (some ⟨g, off, none⟩) n cap) L) (hk : k < L.length) :
    w.cell? ⟨g, off + k * 7, none⟩ = some (.int .u32 L[k].x.1) ∧ w.cell? ⟨g, off + k * 7 + 1, none⟩ = some (.string L[k].x.2.1) ∧ w.cell? ⟨g, off + k * 7 + 2, none⟩ = some (.string L[k].x.2.2) ∧ w.cell? ⟨g, off + k * 7 + 3, none⟩ = some (.int .u8 L[k].st) ∧ w.cell? ⟨g, off + k * 7 + 4, none⟩ = some (.int .u8 L[k].why) ∧ w.cell? ⟨g, off + k * 7 + 5, none⟩ = some (.int .u32 L[k].tm) ∧ w.cell? ⟨g, off + k * 7 + 6, none⟩ = some (.int .u32 L[k].lf) :=
  ⟨h.get k hk 0 _ rfl, h.get k hk 1 _ rfl, h.get k hk 2 _ rfl, h.get k hk 3 _ rfl, h.get k hk 4 _ rfl, h.get k hk 5 _ rfl, h.get k hk 6 _ rfl⟩

theorem must_ok (w : World) (e : Int) : Calls Try.prog 50 #[.bool true, .int .i64 e] w fun r w' => r = .returned (.tuple #[]) ∧ w = w' := by
  go_enter Try.func50, Try.ntmps50
  go_wp2
  go_end0
  exact ⟨rfl, rfl⟩
theorem must_no (w : World) (e : Int) : Calls Try.prog 50 #[.bool false, .int .i64 e] w fun r w' => r = .panicked [{ v := .iface 36 (.int .i64 e), recovered := false }] ∧ w = w' := by
  go_enter Try.func50, Try.ntmps50
  go_wp2
  exact ⟨rfl, rfl, rfl⟩
end Go.Proofs.Ytcelpincmpjhkaa

/- Package branch: row, at. Conditions: the table reads as rows; at most a million. Written by gen_brC.py. -/
namespace Go.Proofs.Ytcelpincmpjhkaa
set_option linter.unusedSimpArgs false
set_option linter.unusedVariables false
open Go.RowKit
abbrev brVal (b : Brn) : Value := .agg #[.int .u32 b.x.1, .string b.x.2.1, .string b.x.2.2, .int .u8 b.st, .int .u8 b.why, .int .u32 b.tm, .int .u32 b.lf]

set_option maxRecDepth 100000 in
set_option maxHeartbeats 1600000 in
theorem row_any (w : World) (b : Brn) (v : Bool) (hv : decide (RowOk b) = v) :
    Calls Try.prog 76 #[.agg #[.int .u32 b.x.1, .string b.x.2.1, .string b.x.2.2, .int .u8 b.st, .int .u8 b.why, .int .u32 b.tm, .int .u32 b.lf]] w fun e w' => e = .returned (.bool v) ∧ Below w.heap.size w w' := by
  obtain ⟨⟨xf, xg, xb⟩, st, why, tm, lf⟩ := b
  simp only at *
  have hB0 := (Below.refl w.heap.size w).alloc (Nat.le_refl _) (.cells #[.int .u32 xf, .string xg, .string xb, .int .u8 st, .int .u8 why, .int .u32 tm, .int .u32 lf] 44)
  have b0 := Blk.new w [.int .u32 xf, .string xg, .string xb, .int .u8 st, .int .u8 why, .int .u32 tm, .int .u32 lf] 44
  have c0 := b0.at 0 rfl; have c1 := b0.at 1 rfl; have c2 := b0.at 2 rfl
  subst hv
  by_cases hx : XidOk (xf, xg, xb)
  rotate_left 1
  · have hxv := Lib.hid (show (if XidOk (xf, xg, xb) then (0 : Int) else 40) = 40 from if_neg hx)
    have hres := Lib.hid (show decide (RowOk ⟨(xf, xg, xb), st, why, tm, lf⟩) = false from decide_eq_false (fun h => hx h.1))
    clear hx
    go_enter Try.func76, Try.ntmps76
    go_wp2_with (go_at_call 99; refine (xid_chk _ (xf, xg, xb) _ hxv.out).mono ?_; rintro e w1 ⟨rfl, hB1⟩; have hT1 := hB0.trans (hB1.mono hB0.size); have b1 := b0.pure hB1; have d3 := b1.at 3 rfl; have d4 := b1.at 4 rfl; have d5 := b1.at 5 rfl; have d6 := b1.at 6 rfl)
    go_ret
    exact ⟨by rw [hres.out]; first | rfl | (simp; omega), hT1⟩
  have hxv := Lib.hid (show (if XidOk (xf, xg, xb) then (0 : Int) else 40) = 0 from if_pos hx)
  by_cases h1 : st < 1
  · have hdum := True.intro
    have hres := Lib.hid (show decide (RowOk ⟨(xf, xg, xb), st, why, tm, lf⟩) = false from decide_eq_false (fun h => by have := h.2.1; simp only at this; omega))
    clear hx
    go_enter Try.func76, Try.ntmps76
    go_wp2_with (go_at_call 99; refine (xid_chk _ (xf, xg, xb) _ hxv.out).mono ?_; rintro e w1 ⟨rfl, hB1⟩; have hT1 := hB0.trans (hB1.mono hB0.size); have b1 := b0.pure hB1; have d3 := b1.at 3 rfl; have d4 := b1.at 4 rfl; have d5 := b1.at 5 rfl; have d6 := b1.at 6 rfl)
    go_ret
    exact ⟨by rw [hres.out]; first | rfl | (simp; omega), hT1⟩
  by_cases h2 : 4 < st
  · have hdum := True.intro
    have hres := Lib.hid (show decide (RowOk ⟨(xf, xg, xb), st, why, tm, lf⟩) = false from decide_eq_false (fun h => by have := h.2.2.1; simp only at this; omega))
    clear hx
    go_enter Try.func76, Try.ntmps76
    go_wp2_with (go_at_call 99; refine (xid_chk _ (xf, xg, xb) _ hxv.out).mono ?_; rintro e w1 ⟨rfl, hB1⟩; have hT1 := hB0.trans (hB1.mono hB0.size); have b1 := b0.pure hB1; have d3 := b1.at 3 rfl; have d4 := b1.at 4 rfl; have d5 := b1.at 5 rfl; have d6 := b1.at 6 rfl)
    go_ret
    exact ⟨by rw [hres.out]; first | rfl | (simp; omega), hT1⟩
  by_cases h3 : 2 < why
  · have hdum := True.intro
    have hres := Lib.hid (show decide (RowOk ⟨(xf, xg, xb), st, why, tm, lf⟩) = false from decide_eq_false (fun h => by have := h.2.2.2.1; simp only at this; omega))
    clear hx
    go_enter Try.func76, Try.ntmps76
    go_wp2_with (go_at_call 99; refine (xid_chk _ (xf, xg, xb) _ hxv.out).mono ?_; rintro e w1 ⟨rfl, hB1⟩; have hT1 := hB0.trans (hB1.mono hB0.size); have b1 := b0.pure hB1; have d3 := b1.at 3 rfl; have d4 := b1.at 4 rfl; have d5 := b1.at 5 rfl; have d6 := b1.at 6 rfl)
    go_ret
    exact ⟨by rw [hres.out]; first | rfl | (simp; omega), hT1⟩
  have hq : RowOk ⟨(xf, xg, xb), st, why, tm, lf⟩ ↔ (if st ≠ 1 ∨ why ≠ 0 ∨ tm = 0 then lf = 0 ∧ (st = 1 ∨ why = 0) else 1 ≤ lf ∧ lf ≤ tm) := ⟨fun h => h.2.2.2.2, fun h => ⟨hx, by simp only; omega, by simp only; omega, by simp only; omega, h⟩⟩
  clear hx
  by_cases est : st = 1
  · have esta : (st == 1) = true := by rw [est]; rfl
    have estb : (st != 1) = false := by rw [est]; rfl
    by_cases ewhy : why = 0
    · have ewhya : (why == 0) = true := by rw [ewhy]; rfl
      have ewhyb : (why != 0) = false := by rw [ewhy]; rfl
      by_cases etm : tm = 0
      · have etma : (tm == 0) = true := by rw [etm]; rfl
        have etmb : (tm != 0) = false := by rw [etm]; rfl
        by_cases elf : lf = 0
        · have elfa : (lf == 0) = true := by rw [elf]; rfl
          have elfb : (lf != 0) = false := by rw [elf]; rfl
          have hres := Lib.hid (show decide (RowOk ⟨(xf, xg, xb), st, why, tm, lf⟩) = true from by rw [decide_eq_true_iff, hq]; simp [est, ewhy, etm, elf])
          clear hq est ewhy etm elf
          go_enter Try.func76, Try.ntmps76
          go_wp2_with (go_at_call 99; refine (xid_chk _ (xf, xg, xb) _ hxv.out).mono ?_; rintro e w1 ⟨rfl, hB1⟩; have hT1 := hB0.trans (hB1.mono hB0.size); have b1 := b0.pure hB1; have d3 := b1.at 3 rfl; have d4 := b1.at 4 rfl; have d5 := b1.at 5 rfl; have d6 := b1.at 6 rfl)
          go_ret
          exact ⟨by rw [hres.out]; first | rfl | (simp; omega), hT1⟩
        · have elfa : (lf == 0) = false := beq_eq_false_iff_ne.2 elf
          have elfb : (lf != 0) = true := bne_iff_ne.2 elf
          have hres := Lib.hid (show decide (RowOk ⟨(xf, xg, xb), st, why, tm, lf⟩) = false from by rw [decide_eq_false_iff_not, hq]; simp [est, ewhy, etm, elf])
          clear hq est ewhy etm elf
          go_enter Try.func76, Try.ntmps76
          go_wp2_with (go_at_call 99; refine (xid_chk _ (xf, xg, xb) _ hxv.out).mono ?_; rintro e w1 ⟨rfl, hB1⟩; have hT1 := hB0.trans (hB1.mono hB0.size); have b1 := b0.pure hB1; have d3 := b1.at 3 rfl; have d4 := b1.at 4 rfl; have d5 := b1.at 5 rfl; have d6 := b1.at 6 rfl)
          go_ret
          exact ⟨by rw [hres.out]; first | rfl | (simp; omega), hT1⟩
      · have etma : (tm == 0) = false := beq_eq_false_iff_ne.2 etm
        have etmb : (tm != 0) = true := bne_iff_ne.2 etm
        by_cases l1 : 1 ≤ lf
        · have hdum := True.intro
          by_cases l2 : lf ≤ tm
          · have hdum := True.intro
            have hres := Lib.hid (show decide (RowOk ⟨(xf, xg, xb), st, why, tm, lf⟩) = true from by rw [decide_eq_true_iff, hq]; simp [est, ewhy, etm, l1, l2])
            clear hq est ewhy etm
            go_enter Try.func76, Try.ntmps76
            go_wp2_with (go_at_call 99; refine (xid_chk _ (xf, xg, xb) _ hxv.out).mono ?_; rintro e w1 ⟨rfl, hB1⟩; have hT1 := hB0.trans (hB1.mono hB0.size); have b1 := b0.pure hB1; have d3 := b1.at 3 rfl; have d4 := b1.at 4 rfl; have d5 := b1.at 5 rfl; have d6 := b1.at 6 rfl)
            go_ret
            exact ⟨by rw [hres.out]; first | rfl | (simp; omega), hT1⟩
          · have hdum := True.intro
            have hres := Lib.hid (show decide (RowOk ⟨(xf, xg, xb), st, why, tm, lf⟩) = false from by rw [decide_eq_false_iff_not, hq]; simp [est, ewhy, etm, l1, l2])
            clear hq est ewhy etm
            go_enter Try.func76, Try.ntmps76
            go_wp2_with (go_at_call 99; refine (xid_chk _ (xf, xg, xb) _ hxv.out).mono ?_; rintro e w1 ⟨rfl, hB1⟩; have hT1 := hB0.trans (hB1.mono hB0.size); have b1 := b0.pure hB1; have d3 := b1.at 3 rfl; have d4 := b1.at 4 rfl; have d5 := b1.at 5 rfl; have d6 := b1.at 6 rfl)
            go_ret
            exact ⟨by rw [hres.out]; first | rfl | (simp; omega), hT1⟩
        · have hdum := True.intro
          have hres := Lib.hid (show decide (RowOk ⟨(xf, xg, xb), st, why, tm, lf⟩) = false from by rw [decide_eq_false_iff_not, hq]; simp [est, ewhy, etm, l1])
          clear hq est ewhy etm
          go_enter Try.func76, Try.ntmps76
          go_wp2_with (go_at_call 99; refine (xid_chk _ (xf, xg, xb) _ hxv.out).mono ?_; rintro e w1 ⟨rfl, hB1⟩; have hT1 := hB0.trans (hB1.mono hB0.size); have b1 := b0.pure hB1; have d3 := b1.at 3 rfl; have d4 := b1.at 4 rfl; have d5 := b1.at 5 rfl; have d6 := b1.at 6 rfl)
          go_ret
          exact ⟨by rw [hres.out]; first | rfl | (simp; omega), hT1⟩
    · have ewhya : (why == 0) = false := beq_eq_false_iff_ne.2 ewhy
      have ewhyb : (why != 0) = true := bne_iff_ne.2 ewhy
      by_cases elf : lf = 0
      · have elfa : (lf == 0) = true := by rw [elf]; rfl
        have elfb : (lf != 0) = false := by rw [elf]; rfl
        have hres := Lib.hid (show decide (RowOk ⟨(xf, xg, xb), st, why, tm, lf⟩) = true from by rw [decide_eq_true_iff, hq]; simp [est, ewhy, elf])
        clear hq est ewhy elf
        go_enter Try.func76, Try.ntmps76
        go_wp2_with (go_at_call 99; refine (xid_chk _ (xf, xg, xb) _ hxv.out).mono ?_; rintro e w1 ⟨rfl, hB1⟩; have hT1 := hB0.trans (hB1.mono hB0.size); have b1 := b0.pure hB1; have d3 := b1.at 3 rfl; have d4 := b1.at 4 rfl; have d5 := b1.at 5 rfl; have d6 := b1.at 6 rfl)
        go_ret
        exact ⟨by rw [hres.out]; first | rfl | (simp; omega), hT1⟩
      · have elfa : (lf == 0) = false := beq_eq_false_iff_ne.2 elf
        have elfb : (lf != 0) = true := bne_iff_ne.2 elf
        have hres := Lib.hid (show decide (RowOk ⟨(xf, xg, xb), st, why, tm, lf⟩) = false from by rw [decide_eq_false_iff_not, hq]; simp [est, ewhy, elf])
        clear hq est ewhy elf
        go_enter Try.func76, Try.ntmps76
        go_wp2_with (go_at_call 99; refine (xid_chk _ (xf, xg, xb) _ hxv.out).mono ?_; rintro e w1 ⟨rfl, hB1⟩; have hT1 := hB0.trans (hB1.mono hB0.size); have b1 := b0.pure hB1; have d3 := b1.at 3 rfl; have d4 := b1.at 4 rfl; have d5 := b1.at 5 rfl; have d6 := b1.at 6 rfl)
        go_ret
        exact ⟨by rw [hres.out]; first | rfl | (simp; omega), hT1⟩
  · have esta : (st == 1) = false := beq_eq_false_iff_ne.2 est
    have estb : (st != 1) = true := bne_iff_ne.2 est
    by_cases ewhy : why = 0
    · have ewhya : (why == 0) = true := by rw [ewhy]; rfl
      have ewhyb : (why != 0) = false := by rw [ewhy]; rfl
      by_cases elf : lf = 0
      · have elfa : (lf == 0) = true := by rw [elf]; rfl
        have elfb : (lf != 0) = false := by rw [elf]; rfl
        have hres := Lib.hid (show decide (RowOk ⟨(xf, xg, xb), st, why, tm, lf⟩) = true from by rw [decide_eq_true_iff, hq]; simp [est, ewhy, elf])
        clear hq est ewhy elf
        go_enter Try.func76, Try.ntmps76
        go_wp2_with (go_at_call 99; refine (xid_chk _ (xf, xg, xb) _ hxv.out).mono ?_; rintro e w1 ⟨rfl, hB1⟩; have hT1 := hB0.trans (hB1.mono hB0.size); have b1 := b0.pure hB1; have d3 := b1.at 3 rfl; have d4 := b1.at 4 rfl; have d5 := b1.at 5 rfl; have d6 := b1.at 6 rfl)
        go_ret
        exact ⟨by rw [hres.out]; first | rfl | (simp; omega), hT1⟩
      · have elfa : (lf == 0) = false := beq_eq_false_iff_ne.2 elf
        have elfb : (lf != 0) = true := bne_iff_ne.2 elf
        have hres := Lib.hid (show decide (RowOk ⟨(xf, xg, xb), st, why, tm, lf⟩) = false from by rw [decide_eq_false_iff_not, hq]; simp [est, ewhy, elf])
        clear hq est ewhy elf
        go_enter Try.func76, Try.ntmps76
        go_wp2_with (go_at_call 99; refine (xid_chk _ (xf, xg, xb) _ hxv.out).mono ?_; rintro e w1 ⟨rfl, hB1⟩; have hT1 := hB0.trans (hB1.mono hB0.size); have b1 := b0.pure hB1; have d3 := b1.at 3 rfl; have d4 := b1.at 4 rfl; have d5 := b1.at 5 rfl; have d6 := b1.at 6 rfl)
        go_ret
        exact ⟨by rw [hres.out]; first | rfl | (simp; omega), hT1⟩
    · have ewhya : (why == 0) = false := beq_eq_false_iff_ne.2 ewhy
      have ewhyb : (why != 0) = true := bne_iff_ne.2 ewhy
      by_cases elf : lf = 0
      · have elfa : (lf == 0) = true := by rw [elf]; rfl
        have elfb : (lf != 0) = false := by rw [elf]; rfl
        have hres := Lib.hid (show decide (RowOk ⟨(xf, xg, xb), st, why, tm, lf⟩) = false from by rw [decide_eq_false_iff_not, hq]; simp [est, ewhy, elf])
        clear hq est ewhy elf
        go_enter Try.func76, Try.ntmps76
        go_wp2_with (go_at_call 99; refine (xid_chk _ (xf, xg, xb) _ hxv.out).mono ?_; rintro e w1 ⟨rfl, hB1⟩; have hT1 := hB0.trans (hB1.mono hB0.size); have b1 := b0.pure hB1; have d3 := b1.at 3 rfl; have d4 := b1.at 4 rfl; have d5 := b1.at 5 rfl; have d6 := b1.at 6 rfl)
        go_ret
        exact ⟨by rw [hres.out]; first | rfl | (simp; omega), hT1⟩
      · have elfa : (lf == 0) = false := beq_eq_false_iff_ne.2 elf
        have elfb : (lf != 0) = true := bne_iff_ne.2 elf
        have hres := Lib.hid (show decide (RowOk ⟨(xf, xg, xb), st, why, tm, lf⟩) = false from by rw [decide_eq_false_iff_not, hq]; simp [est, ewhy, elf])
        clear hq est ewhy elf
        go_enter Try.func76, Try.ntmps76
        go_wp2_with (go_at_call 99; refine (xid_chk _ (xf, xg, xb) _ hxv.out).mono ?_; rintro e w1 ⟨rfl, hB1⟩; have hT1 := hB0.trans (hB1.mono hB0.size); have b1 := b0.pure hB1; have d3 := b1.at 3 rfl; have d4 := b1.at 4 rfl; have d5 := b1.at 5 rfl; have d6 := b1.at 6 rfl)
        go_ret
        exact ⟨by rw [hres.out]; first | rfl | (simp; omega), hT1⟩

theorem at1_any (w : World) (b : Brn) (x : Xid) :
    Calls Try.prog 110 #[.agg #[.int .u32 b.x.1, .string b.x.2.1, .string b.x.2.2, .int .u8 b.st, .int .u8 b.why, .int .u32 b.tm, .int .u32 b.lf], .agg #[.int .u32 x.1, .string x.2.1, .string x.2.2]] w fun e w' => e = .returned (.int .i64 (cmpX b.x x)) ∧ Below w.heap.size w w' := by
  obtain ⟨⟨xf, xg, xb⟩, st, why, tm, lf⟩ := b
  obtain ⟨yf, yg, yb⟩ := x
  simp only
  have hB0 : Below w.heap.size w ((w.alloc (.cells #[.int .u32 xf, .string xg, .string xb, .int .u8 st, .int .u8 why, .int .u32 tm, .int .u32 lf] 44)).alloc (.cells #[.int .u32 yf, .string yg, .string yb] 28)) := ((Below.refl w.heap.size w).alloc (Nat.le_refl _) _).alloc (by simp) _
  have b0 : Blk ((w.alloc (.cells #[.int .u32 xf, .string xg, .string xb, .int .u8 st, .int .u8 why, .int .u32 tm, .int .u32 lf] 44)).alloc (.cells #[.int .u32 yf, .string yg, .string yb] 28)) w.heap.size [.int .u32 xf, .string xg, .string xb, .int .u8 st, .int .u8 why, .int .u32 tm, .int .u32 lf] := (Blk.new w [.int .u32 xf, .string xg, .string xb, .int .u8 st, .int .u8 why, .int .u32 tm, .int .u32 lf] 44).alloc _
  have e0 : Blk ((w.alloc (.cells #[.int .u32 xf, .string xg, .string xb, .int .u8 st, .int .u8 why, .int .u32 tm, .int .u32 lf] 44)).alloc (.cells #[.int .u32 yf, .string yg, .string yb] 28)) (w.heap.size + 1) [.int .u32 yf, .string yg, .string yb] := by have := Blk.new (w.alloc (.cells #[.int .u32 xf, .string xg, .string xb, .int .u8 st, .int .u8 why, .int .u32 tm, .int .u32 lf] 44)) [.int .u32 yf, .string yg, .string yb] 28; simpa using this
  have c0 := b0.at 0 rfl; have c1 := b0.at 1 rfl; have c2 := b0.at 2 rfl; have c3 := e0.at 0 rfl; have c4 := e0.at 1 rfl; have c5 := e0.at 2 rfl
  go_enter Try.func110, Try.ntmps110
  go_wp2_with (go_at_call 77; refine (xid_compare _ (xf, xg, xb) (yf, yg, yb)).mono ?_; rintro e w1 ⟨rfl, hB1⟩)
  go_ret
  exact ⟨rfl, hB0.trans (hB1.mono hB0.size)⟩
end Go.Proofs.Ytcelpincmpjhkaa
