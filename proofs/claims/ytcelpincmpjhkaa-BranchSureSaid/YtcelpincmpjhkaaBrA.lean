/- Chapter 19 in plain lists: tables of branches, what is right, what each call leaves. Conditions: none. -/
import Derived.Test.YtcelpincmpjhkaaAssocI
import Derived.Test.YtcelpincmpjhkaaBlkAt
namespace Go.Proofs.Ytcelpincmpjhkaa
open Go.RowKit
set_option linter.unusedVariables false

/-- A branch of a table. -/
structure Brn where
  x : Xid
  st : Int
  why : Int
  tm : Int
  lf : Int
theorem Brn.ext' {a b : Brn} (h1 : a.x = b.x) (h2 : a.st = b.st) (h3 : a.why = b.why) (h4 : a.tm = b.tm) (h5 : a.lf = b.lf) : a = b := by cases a; cases b; simp_all
def brEnc (b : Brn) : List Value := [.int .u32 b.x.1, .string b.x.2.1, .string b.x.2.2, .int .u8 b.st, .int .u8 b.why, .int .u32 b.tm, .int .u32 b.lf]
theorem brEnc_len (b : Brn) : (brEnc b).length = 7 := rfl
theorem brEnc_one (b : Brn) : ∀ u ∈ brEnc b, u.oneCell' = true := by simp [brEnc, Value.oneCell']

def RowOk (b : Brn) : Prop := XidOk b.x ∧ 1 ≤ b.st ∧ b.st ≤ 4 ∧ b.why ≤ 2 ∧ if b.st ≠ 1 ∨ b.why ≠ 0 ∨ b.tm = 0 then b.lf = 0 ∧ (b.st = 1 ∨ b.why = 0) else 1 ≤ b.lf ∧ b.lf ≤ b.tm
instance (b : Brn) : Decidable (RowOk b) := by unfold RowOk; infer_instance
abbrev RisesB (R : List Brn) : Prop := R.Pairwise (fun a b => cmpX a.x b.x < 0)
def TabOk (R : List Brn) (A : List Asc) : Prop := ((∀ b ∈ R, RowOk b) ∧ RisesB R) ∧ RowA A ∧ ∀ a ∈ A, ∃ b ∈ R, b.x = a.2.1 ∧ b.st = 1
noncomputable def tabE (R : List Brn) (A : List Asc) : Int := @ite _ (TabOk R A) (Classical.propDecidable _) 0 190
theorem tabE_yes {R : List Brn} {A : List Asc} (h : TabOk R A) : tabE R A = 0 := by unfold tabE; rw [if_pos h]
theorem tabE_no {R : List Brn} {A : List Asc} (h : ¬ TabOk R A) : tabE R A = 190 := by unfold tabE; rw [if_neg h]
theorem tabE_cases (R : List Brn) (A : List Asc) : (TabOk R A ∧ tabE R A = 0) ∨ (¬ TabOk R A ∧ tabE R A = 190) := by
  rcases Classical.em (TabOk R A) with h | h
  · exact .inl ⟨h, tabE_yes h⟩
  · exact .inr ⟨h, tabE_no h⟩
noncomputable def mayB (R : List Brn) (A : List Asc) (ok : Bool) (x : Xid) : Int := if tabE R A ≠ 0 then 190 else if ok = false then 2 else if XidOk x then 0 else 40
theorem mayB_zero {R : List Brn} {A : List Asc} {ok : Bool} {x : Xid} (h : mayB R A ok x = 0) : TabOk R A ∧ ok = true ∧ XidOk x := by
  unfold mayB at h
  rcases tabE_cases R A with ⟨h1, h2⟩ | ⟨h1, h2⟩
  · rw [h2, if_neg (by simp)] at h
    cases ok
    · simp at h
    · rw [if_neg (by simp)] at h
      by_cases hx : XidOk x
      · exact ⟨h1, rfl, hx⟩
      · rw [if_neg hx] at h; omega
  · rw [h2, if_pos (by simp)] at h; omega

/-! ### the place of a name -/
def MemB (R : List Brn) (x : Xid) : Prop := ∃ k, ∃ h : k < R.length, R[k].x = x
noncomputable def idxB (R : List Brn) (x : Xid) : Option Nat := by classical exact if h : MemB R x then some h.choose else none
theorem idxB_no {R : List Brn} {x : Xid} (h : ¬ MemB R x) : idxB R x = none := by unfold idxB; rw [dif_neg h]
theorem cmpX_zero {a b : Xid} : cmpX a b = 0 ↔ a = b := cmpX_ok.eq _ _
theorem sameB_idx {R : List Brn} (hr : RisesB R) {i k : Nat} (hi : i < R.length) (hk : k < R.length) (he : R[i].x = R[k].x) : i = k := by
  have hz : cmpX R[i].x R[k].x = 0 := cmpX_zero.2 he
  rcases Nat.lt_trichotomy i k with h | h | h
  · have := List.pairwise_iff_getElem.1 hr i k hi hk h; omega
  · exact h
  · have := List.pairwise_iff_getElem.1 hr k i hk hi h; have h2 := cmpX_ok.anti R[i].x R[k].x; omega
theorem idxB_yes {R : List Brn} {x : Xid} {k : Nat} (hr : RisesB R) (hk : k < R.length) (he : R[k].x = x) : idxB R x = some k := by
  have hm : MemB R x := ⟨k, hk, he⟩
  unfold idxB
  rw [dif_pos hm]
  obtain ⟨h, e⟩ := hm.choose_spec
  rw [sameB_idx hr h hk (e.trans he.symm)]
def PlaceB (R : List Brn) (x : Xid) (i : Nat) : Prop := i ≤ R.length ∧ (∀ j, (h : j < R.length) → j < i → cmpX R[j].x x < 0) ∧ ∀ j, (h : j < R.length) → i ≤ j → 0 ≤ cmpX R[j].x x
noncomputable def placeM (R : List Brn) (x : Xid) : Nat := by classical exact if h : ∃ i, PlaceB R x i then h.choose else 0
theorem placeB_eq {R : List Brn} {x : Xid} {i : Nat} (h : PlaceB R x i) : placeM R x = i := by
  have hm : ∃ i, PlaceB R x i := ⟨i, h⟩
  unfold placeM
  rw [dif_pos hm]
  have h2 := hm.choose_spec
  generalize hm.choose = j at h2
  rcases Nat.lt_trichotomy j i with q | q | q
  · have := h.2.1 j (by have := h.1; omega) q; have := h2.2.2 j (by have := h.1; omega) (Nat.le_refl _); omega
  · exact q
  · have := h2.2.1 i (by have := h2.1; omega) q; have := h.2.2 i (by have := h2.1; omega) (Nat.le_refl _); omega
theorem placeB_at {R : List Brn} {x : Xid} {i k : Nat} (hr : RisesB R) (hp : PlaceB R x i) (hk : k < R.length) (he : R[k].x = x) : k = i := by
  obtain ⟨h0, h1, h2⟩ := hp
  have hz : cmpX R[k].x x = 0 := cmpX_zero.2 he
  rcases Nat.lt_trichotomy k i with h | h | h
  · have := h1 k hk h; omega
  · exact h
  · have h3 : cmpX (R[i]'(by omega)).x R[k].x < 0 := List.pairwise_iff_getElem.1 hr i k (by omega) hk h
    have h4 := cmpX_ok.lt_le h3 (Int.le_of_eq hz)
    have h5 := h2 i (by omega) (Nat.le_refl _)
    omega
def insB (R : List Brn) (i : Nat) (b : Brn) : List Brn := R.take i ++ b :: R.drop i
theorem bytes_beq_eq' (a b : ByteArray) : (a == b) = decide (a = b) := by
  rw [beq_toListBytes]
  by_cases h : a = b
  · subst h; simp
  · rw [decide_eq_false h]
    apply beq_eq_false_iff_ne.2
    intro e
    apply h
    have : a.data.toList = b.data.toList := by rw [ByteArray.toList_eq, ByteArray.toList_eq] at e; exact e
    cases a; cases b; simp only [ByteArray.mk.injEq]; exact Array.toList_inj.1 this
theorem neX_decide (a b : Xid) : (a != b) = decide (a ≠ b) := by
  obtain ⟨a1, a2, a3⟩ := a
  obtain ⟨b1, b2, b3⟩ := b
  show (!(a1 == b1 && (a2 == b2 && a3 == b3))) = _
  rw [bytes_beq_eq', bytes_beq_eq']
  by_cases h1 : a1 = b1 <;> by_cases h2 : a2 = b2 <;> by_cases h3 : a3 = b3 <;> simp [h1, h2, h3]
def withoutB (R : List Brn) (x : Xid) : List Brn := R.filter (fun b => b.x != x)
theorem without_all {R : List Brn} {x : Xid} (h : ¬ MemB R x) : withoutB R x = R := by
  unfold withoutB
  rw [List.filter_eq_self]
  intro b hb
  rw [neX_decide]
  refine decide_eq_true (fun e => h ?_)
  obtain ⟨k, hk, rfl⟩ := List.getElem_of_mem hb
  exact ⟨k, hk, e⟩

/-! ### the calls -/
abbrev Res := List Brn × List Asc × Int × Int
def errR (e : Int) : Res := ([], [], 0, e)
def Brn.spoil (b : Brn) (y : Int) : Brn := { b with why := if b.why = 0 then y else b.why, lf := 0 }
def newB (x : Xid) (s : Int) : Brn := ⟨x, s, 0, 0, 0⟩
noncomputable def startD (R : List Brn) (A : List Asc) (s : Int) (x : Xid) (join resume : Bool) : Res :=
  if (actA A s).isSome = true then errR 9 else
  if join = false ∧ resume = false then (match idxB R x with
    | some _ => errR 8
    | none => if (startF A s x).2 = 0 then (insB R (placeM R x) (newB x 1), (startF A s x).1, 0, 0) else errR 9)
  else match idxB R x with
    | none => errR 7
    | some k => if (R.getD k (newB x 0)).st ≠ 1 then errR 9 else
      if (R.getD k (newB x 0)).why ≠ 0 then (R, A, (R.getD k (newB x 0)).why, 0) else
      if resume = true then (if (resumeF A s x).2 = 0 then (R, (resumeF A s x).1, 0, 0) else errR 9)
      else (if (startF A s x).2 = 0 then (R, (startF A s x).1, 0, 0) else errR 9)
noncomputable def endD (R : List Brn) (A : List Asc) (s : Int) (x : Xid) (fail susp : Bool) : Res :=
  match idxB R x with
  | none => errR 7
  | some k => match idxA A s x with
    | none => errR 9
    | some j => if susp = true ∧ (A.getD j (0, noX, false)).2.2 = true then errR 9 else
      if susp = true ∧ (R.getD k (newB x 0)).why = 0 then (R, (suspendF A s x).1, 0, 0) else
      if fail = true then (R.set k ((R.getD k (newB x 0)).spoil 1), (endF A s x).1, ((R.getD k (newB x 0)).spoil 1).why, 0)
      else (R, (endF A s x).1, (R.getD k (newB x 0)).why, 0)
noncomputable def prepareD (R : List Brn) (A : List Asc) (x : Xid) (empty : Bool) : Res :=
  match idxB R x with
  | none => errR 7
  | some k => if (R.getD k (newB x 0)).st ≠ 1 ∨ cntA A x > 0 then errR 9 else
    if (R.getD k (newB x 0)).why ≠ 0 then (withoutB R x, A, (R.getD k (newB x 0)).why, 0) else
    if empty = true then (withoutB R x, A, 7, 0) else (R.set k { R.getD k (newB x 0) with st := 2, lf := 0 }, A, 0, 0)
def answerD (s : Int) : Int := if s = 3 then 4 else if s = 4 then 5 else 0
noncomputable def commitD (R : List Brn) (A : List Asc) (x : Xid) (one : Bool) : Res :=
  match idxB R x with
  | none => errR 7
  | some k => if answerD (R.getD k (newB x 0)).st ≠ 0 then (R, A, answerD (R.getD k (newB x 0)).st, 0) else
    if (R.getD k (newB x 0)).st ≠ (if one = true then 1 else 2) ∨ cntA A x > 0 then errR 9 else (withoutB R x, A, (R.getD k (newB x 0)).why, 0)
noncomputable def rollbackD (R : List Brn) (A : List Asc) (x : Xid) : Res :=
  match idxB R x with
  | none => errR 7
  | some k => if answerD (R.getD k (newB x 0)).st ≠ 0 then (R, A, answerD (R.getD k (newB x 0)).st, 0) else
    if cntA A x > 0 then errR 9 else (withoutB R x, A, 0, 0)
noncomputable def forgetD (R : List Brn) (A : List Asc) (x : Xid) : Res :=
  match idxB R x with
  | none => errR 7
  | some k => if answerD (R.getD k (newB x 0)).st ≠ 0 then (withoutB R x, A, 0, 0) else errR 9
noncomputable def decideD (R : List Brn) (A : List Asc) (x : Xid) (commit : Bool) : Res :=
  match idxB R x with
  | none => errR 7
  | some k => if (R.getD k (newB x 0)).st = 2 then (R.set k { R.getD k (newB x 0) with st := if commit = true then 3 else 4 }, A, 0, 0) else errR 9
noncomputable def spoilD (R : List Brn) (A : List Asc) (x : Xid) : Res :=
  match idxB R x with
  | none => errR 7
  | some k => if (R.getD k (newB x 0)).st = 1 then (R.set k ((R.getD k (newB x 0)).spoil 1), A, 0, 0) else errR 9
noncomputable def timeoutD (R : List Brn) (A : List Asc) (x : Xid) (n : Int) : Res :=
  match idxB R x with
  | none => errR 7
  | some k => if (R.getD k (newB x 0)).st = 1 then (R.set k { R.getD k (newB x 0) with tm := n, lf := if (R.getD k (newB x 0)).why = 0 then n else (R.getD k (newB x 0)).lf }, A, 0, 0) else errR 9
noncomputable def restoreD (R : List Brn) (A : List Asc) (x : Xid) (s : Int) : Res :=
  match idxB R x with
  | some _ => errR 8
  | none => (insB R (placeM R x) (newB x s), A, 0, 0)
noncomputable def overB (m : Int) (d : Res) : Res := if m = 0 then d else errR m
end Go.Proofs.Ytcelpincmpjhkaa
