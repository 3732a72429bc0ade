/- Package assoc: Suspend, End, Resume, Start. Conditions: the row reads as associations; at most a million. Written by gen_aturns.py. -/
import Derived.Test.YtcelpincmpjhkaaGD
import Derived.Test.YtcelpincmpjhkaaAssocDel
import Derived.Test.YtcelpincmpjhkaaAssocIns
import Derived.IntWalk
namespace Go.Proofs.Ytcelpincmpjhkaa
set_option linter.unusedSimpArgs false
set_option linter.unusedVariables false
open Go.RowKit

/-- The place of an association. -/
noncomputable def idxA (L : List Asc) (s : Int) (x : Xid) : Option Nat := by classical exact if h : Mem L s x then some h.choose else none
theorem idx_no {L : List Asc} {s : Int} {x : Xid} (h : ¬ Mem L s x) : idxA L s x = none := by unfold idxA; rw [dif_neg h]
theorem same_idx {L : List Asc} (hr : Rises L) {i k : Nat} (hi : i < L.length) (hk : k < L.length) (he : keyA L[i] = keyA L[k]) : i = k := by
  have hz : cmpA L[i] L[k] = 0 := cmpA_zero.2 he
  rcases Nat.lt_trichotomy i k with h | h | h
  · have := List.pairwise_iff_getElem.1 hr i k hi hk h; omega
  · exact h
  · have := List.pairwise_iff_getElem.1 hr k i hk hi h; have h2 := cmpA_anti L[i] L[k]; omega
theorem idx_yes {L : List Asc} {s : Int} {x : Xid} {k : Nat} (hr : Rises L) (hk : k < L.length) (he : keyA L[k] = (s, x)) : idxA L s x = some k := by
  have hm : Mem L s x := ⟨k, hk, he⟩
  unfold idxA
  rw [dif_pos hm]
  obtain ⟨h, e⟩ := hm.choose_spec
  rw [same_idx hr h hk (e.trans he.symm)]

/-- What a call leaves. -/
def TurnPost (w : World) (m : List Asc × Int) (e : Ending) (w' : World) : Prop :=
  ∃ r, e = .returned (.tuple #[r, .int .i64 m.2]) ∧ Own w.heap.size 57 5 ascEnc w' r m.1 ∧ Below w.heap.size w w'

def suspA (L : List Asc) (k : Nat) (b : Bool) : List Asc := match L[k]? with | some a => L.set k (a.susp b) | none => L
theorem suspA_eq {L : List Asc} {k : Nat} (h : k < L.length) (b : Bool) : suspA L k b = L.set k (L[k].susp b) := by
  unfold suspA
  rw [List.getElem?_eq_getElem h]

noncomputable def suspendF (L : List Asc) (s : Int) (x : Xid) : List Asc × Int :=
  if mayN L s x = 0 then (match idxA L s x with
    | none => ([], 7)
    | some k => if (L.getD k (0, noX, false)).2.2 = true then ([], 9) else (suspA L k true, 0)) else ([], mayN L s x)
noncomputable def endF (L : List Asc) (s : Int) (x : Xid) : List Asc × Int :=
  if mayN L s x = 0 then (match idxA L s x with
    | none => ([], 7)
    | some k => (L.eraseIdx k, 0)) else ([], mayN L s x)
noncomputable def resumeF (L : List Asc) (s : Int) (x : Xid) : List Asc × Int :=
  if mayN L s x = 0 then (if (actA L s).isSome = true then ([], 9) else match idxA L s x with
    | none => ([], 7)
    | some k => (suspA L k false, 0)) else ([], mayN L s x)

set_option maxRecDepth 100000 in
set_option maxHeartbeats 1600000 in
theorem suspend_any (w : World) (v : Value) (L : List Asc) (s : Int) (y : Xid) (hs : Slc ascEnc 5 w v L) (hL : L.length ≤ 1000000) :
    Calls Try.prog 66 #[v, .int .u64 s, .agg #[.int .u32 y.1, .string y.2.1, .string y.2.2]] w (TurnPost w (suspendF L s y)) := by
  obtain ⟨yf, yg, yb⟩ := y
  simp only
  have hB0 := (Below.refl w.heap.size w).alloc (Nat.le_refl _) (.cells #[.int .u32 yf, .string yg, .string yb] 28)
  have b0 := Blk.new w [.int .u32 yf, .string yg, .string yb] 28
  have hm := may_any (w.alloc (.cells #[.int .u32 yf, .string yg, .string yb] 28)) v L s (yf, yg, yb) (hs.pure hB0) hL
  unfold suspendF
  obtain ⟨c, hc⟩ : ∃ c, c = mayN L s (yf, yg, yb) := ⟨_, rfl⟩
  rw [← hc] at hm ⊢
  have hm' := Lib.hid hm; clear hm
  by_cases hz : c = 0
  · rw [hz] at hm' hc
    have hzb : (c != 0) = false := by rw [hz]; rfl
    rw [if_pos hz]
    obtain ⟨h1, hs0, hx0⟩ := may_zero hc.symm
    have hr := Lib.hid h1.rises
    clear hc hz hs0 hx0 h1
    rcases Classical.em (Mem L s (yf, yg, yb)) with hm | hm
    · obtain ⟨k, hk, he⟩ := hm
      rw [idx_yes hr.out hk he]
      have he' := Lib.hid he; clear he
      have hgd : L.getD k (0, noX, false) = L[k] := by rw [List.getD_eq_getElem?_getD, List.getElem?_eq_getElem hk]; rfl
      simp only [hgd]
      clear hgd
      obtain ⟨z, hz⟩ : ∃ z, z = L[k].2.2 := ⟨_, rfl⟩
      rw [← hz]
      obtain ⟨a, cap, rfl, hm⟩ := hs.len
      obtain ⟨g, off, rfl⟩ := hs.addr hk
      clear hm
      have hat := Lib.hid (fun (w1 : World) (h : Below w.heap.size w w1) => at_yes w1 _ L s (yf, yg, yb) k (hs.pure h) hr.out hL hk he'.out)
      have hsf := Lib.hid (fun (w1 : World) (h : Below w.heap.size w w1) => hz ▸ (asc_cells (hs.pure h) hk).2.2.2.2)
      have hst := Lib.hid (fun (w1 : World) (h : Below w.heap.size w w1) => set_any w1 _ L k true (hs.pure h) hL hk)
      clear hz hs
      cases z
      · go_enter Try.func66, Try.ntmps66
        go_wp2_with (first | (go_at_call 103; refine hm'.out.mono ?_; rintro e w1 ⟨rfl, hB1⟩; have hB1t := hB0.trans (hB1.mono (by simp)); have b1 := b0.pure hB1; have d0 : w1.cell? ⟨w.heap.size, 0, none⟩ = some (.int .u32 yf) := b1.cell 0; have d1 : w1.cell? ⟨w.heap.size, 1, none⟩ = some (.string yg) := b1.cell 1; have d2 : w1.cell? ⟨w.heap.size, 2, none⟩ = some (.string yb) := b1.cell 2) | (go_at_call 104; refine (hat.out _ hB1t).mono ?_; rintro e w3 ⟨rfl, hB3⟩; have hB3t := hB1t.trans (hB3.mono hB1t.size); have b3 := b1.pure hB3; have c4 := hsf.out _ hB3t) | (go_at_call 106; refine (hst.out _ hB3t).mono ?_; rintro e w5 ⟨r, rfl, hO, hB5⟩))
        go_ret2
        exact ⟨r, rfl, by simp only; rw [suspA_eq hk]; exact hO.rebase (fun j hj => Nat.le_trans hB3t.size (hO.ge hj)), hB3t.trans (hB5.mono hB3t.size)⟩
      · go_enter Try.func66, Try.ntmps66
        go_wp2_with (first | (go_at_call 103; refine hm'.out.mono ?_; rintro e w1 ⟨rfl, hB1⟩; have hB1t := hB0.trans (hB1.mono (by simp)); have b1 := b0.pure hB1; have d0 : w1.cell? ⟨w.heap.size, 0, none⟩ = some (.int .u32 yf) := b1.cell 0; have d1 : w1.cell? ⟨w.heap.size, 1, none⟩ = some (.string yg) := b1.cell 1; have d2 : w1.cell? ⟨w.heap.size, 2, none⟩ = some (.string yb) := b1.cell 2) | (go_at_call 104; refine (hat.out _ hB1t).mono ?_; rintro e w3 ⟨rfl, hB3⟩; have hB3t := hB1t.trans (hB3.mono hB1t.size); have b3 := b1.pure hB3; have c4 := hsf.out _ hB3t))
        go_ret2
        exact ⟨_, rfl, Own.nil, hB3t⟩
    · rw [idx_no hm]
      have hat := Lib.hid (fun (w1 : World) (h : Below w.heap.size w w1) => at_no w1 v L s (yf, yg, yb) (hs.pure h) hr.out hL hm)
      obtain ⟨a, n, cap, rfl⟩ := hs.shape3
      clear hs hm
      go_enter Try.func66, Try.ntmps66
      go_wp2_with (first | (go_at_call 103; refine hm'.out.mono ?_; rintro e w1 ⟨rfl, hB1⟩; have hB1t := hB0.trans (hB1.mono (by simp)); have b1 := b0.pure hB1; have d0 : w1.cell? ⟨w.heap.size, 0, none⟩ = some (.int .u32 yf) := b1.cell 0; have d1 : w1.cell? ⟨w.heap.size, 1, none⟩ = some (.string yg) := b1.cell 1; have d2 : w1.cell? ⟨w.heap.size, 2, none⟩ = some (.string yb) := b1.cell 2) | (go_at_call 104; refine (hat.out _ hB1t).mono ?_; rintro e w3 ⟨i, hi, rfl, hB3⟩; have hB3t := hB1t.trans (hB3.mono hB1t.size); have b3 := b1.pure hB3))
      go_ret2
      exact ⟨_, rfl, Own.nil, hB3t⟩
  · have hzb : (c != 0) = true := bne_iff_ne.2 hz
    rw [if_neg hz]
    obtain ⟨a, n, cap, rfl⟩ := hs.shape3
    clear hs hz hc
    go_enter Try.func66, Try.ntmps66
    go_wp2_with (go_at_call 103; refine hm'.out.mono ?_; rintro e w1 ⟨rfl, hB1⟩; have hB1t := hB0.trans (hB1.mono (by simp)); have b1 := b0.pure hB1; have d0 : w1.cell? ⟨w.heap.size, 0, none⟩ = some (.int .u32 yf) := b1.cell 0; have d1 : w1.cell? ⟨w.heap.size, 1, none⟩ = some (.string yg) := b1.cell 1; have d2 : w1.cell? ⟨w.heap.size, 2, none⟩ = some (.string yb) := b1.cell 2)
    go_ret2
    exact ⟨_, rfl, Own.nil, hB1t⟩

set_option maxRecDepth 100000 in
set_option maxHeartbeats 1600000 in
theorem end_any (w : World) (v : Value) (L : List Asc) (s : Int) (y : Xid) (hs : Slc ascEnc 5 w v L) (hL : L.length ≤ 1000000) :
    Calls Try.prog 67 #[v, .int .u64 s, .agg #[.int .u32 y.1, .string y.2.1, .string y.2.2]] w (TurnPost w (endF L s y)) := by
  obtain ⟨yf, yg, yb⟩ := y
  simp only
  have hB0 := (Below.refl w.heap.size w).alloc (Nat.le_refl _) (.cells #[.int .u32 yf, .string yg, .string yb] 28)
  have b0 := Blk.new w [.int .u32 yf, .string yg, .string yb] 28
  have hm := may_any (w.alloc (.cells #[.int .u32 yf, .string yg, .string yb] 28)) v L s (yf, yg, yb) (hs.pure hB0) hL
  unfold endF
  obtain ⟨c, hc⟩ : ∃ c, c = mayN L s (yf, yg, yb) := ⟨_, rfl⟩
  rw [← hc] at hm ⊢
  have hm' := Lib.hid hm; clear hm
  by_cases hz : c = 0
  · rw [hz] at hm' hc
    have hzb : (c != 0) = false := by rw [hz]; rfl
    rw [if_pos hz]
    obtain ⟨h1, hs0, hx0⟩ := may_zero hc.symm
    have hr := Lib.hid h1.rises
    clear hc hz hs0 hx0 h1
    rcases Classical.em (Mem L s (yf, yg, yb)) with hm | hm
    · obtain ⟨k, hk, he⟩ := hm
      rw [idx_yes hr.out hk he]
      have he' := Lib.hid he; clear he
      obtain ⟨a, cap, rfl, hm⟩ := hs.len
      obtain ⟨g, off, rfl⟩ := hs.addr hk
      clear hm
      have hat := Lib.hid (fun (w1 : World) (h : Below w.heap.size w w1) => at_yes w1 _ L s (yf, yg, yb) k (hs.pure h) hr.out hL hk he'.out)
      have hcl := Lib.hid (fun (w1 : World) (h : Below w.heap.size w w1) => asc_clone w1 _ L (hs.pure h) hL)
      clear hs
      have hkw : IntKind.i64.wrap ((k : Int) + 1) = (k : Int) + 1 := IntWalk.i64_in _ (by omega)
      go_enter Try.func67, Try.ntmps67
      go_wp2_with (first | (go_at_call 103; refine hm'.out.mono ?_; rintro e w1 ⟨rfl, hB1⟩; have hB1t := hB0.trans (hB1.mono (by simp)); have b1 := b0.pure hB1; have d0 : w1.cell? ⟨w.heap.size, 0, none⟩ = some (.int .u32 yf) := b1.cell 0; have d1 : w1.cell? ⟨w.heap.size, 1, none⟩ = some (.string yg) := b1.cell 1; have d2 : w1.cell? ⟨w.heap.size, 2, none⟩ = some (.string yb) := b1.cell 2) | (go_at_call 104; refine (hat.out _ hB1t).mono ?_; rintro e w3 ⟨rfl, hB3⟩; have hB3t := hB1t.trans (hB3.mono hB1t.size); have b3 := b1.pure hB3) | (go_at_call 101; refine (hcl.out _ hB3t).mono ?_; rintro e w5 ⟨r, rfl, hO, hB5⟩; obtain ⟨gg, gc, rfl, hgg, _⟩ := hO.shape (fun e => by rw [e] at hk; simp at hk)) | (go_at_call 108; refine (asc_delete_one _ gg gc k L hO hk hL).mono ?_; rintro e w6 ⟨rfl, hO6, hU6⟩))
      go_ret2
      exact ⟨_, rfl, hO6.rebase (fun j hj => Nat.le_trans hB3t.size (hO6.ge hj)), (hB3t.trans (hB5.mono hB3t.size)).trans (hU6.below (hB3t.trans (hB5.mono hB3t.size)).size (fun j hj => by rw [hj]; exact Nat.le_trans hB3t.size hgg))⟩
    · rw [idx_no hm]
      have hat := Lib.hid (fun (w1 : World) (h : Below w.heap.size w w1) => at_no w1 v L s (yf, yg, yb) (hs.pure h) hr.out hL hm)
      obtain ⟨a, n, cap, rfl⟩ := hs.shape3
      clear hs hm
      go_enter Try.func67, Try.ntmps67
      go_wp2_with (first | (go_at_call 103; refine hm'.out.mono ?_; rintro e w1 ⟨rfl, hB1⟩; have hB1t := hB0.trans (hB1.mono (by simp)); have b1 := b0.pure hB1; have d0 : w1.cell? ⟨w.heap.size, 0, none⟩ = some (.int .u32 yf) := b1.cell 0; have d1 : w1.cell? ⟨w.heap.size, 1, none⟩ = some (.string yg) := b1.cell 1; have d2 : w1.cell? ⟨w.heap.size, 2, none⟩ = some (.string yb) := b1.cell 2) | (go_at_call 104; refine (hat.out _ hB1t).mono ?_; rintro e w3 ⟨i, hi, rfl, hB3⟩; have hB3t := hB1t.trans (hB3.mono hB1t.size); have b3 := b1.pure hB3))
      go_ret2
      exact ⟨_, rfl, Own.nil, hB3t⟩
  · have hzb : (c != 0) = true := bne_iff_ne.2 hz
    rw [if_neg hz]
    obtain ⟨a, n, cap, rfl⟩ := hs.shape3
    clear hs hz hc
    go_enter Try.func67, Try.ntmps67
    go_wp2_with (go_at_call 103; refine hm'.out.mono ?_; rintro e w1 ⟨rfl, hB1⟩; have hB1t := hB0.trans (hB1.mono (by simp)); have b1 := b0.pure hB1; have d0 : w1.cell? ⟨w.heap.size, 0, none⟩ = some (.int .u32 yf) := b1.cell 0; have d1 : w1.cell? ⟨w.heap.size, 1, none⟩ = some (.string yg) := b1.cell 1; have d2 : w1.cell? ⟨w.heap.size, 2, none⟩ = some (.string yb) := b1.cell 2)
    go_ret2
    exact ⟨_, rfl, Own.nil, hB1t⟩

/-- The place where an association goes. -/
noncomputable def placeN (L : List Asc) (t : Asc) : Nat := by classical exact if h : ∃ i, PlaceA L t i then h.choose else 0
theorem place_eq {L : List Asc} {t : Asc} {i : Nat} (h : PlaceA L t i) : placeN L t = i := by
  have hm : ∃ i, PlaceA L t i := ⟨i, h⟩
  unfold placeN
  rw [dif_pos hm]
  have h2 := hm.choose_spec
  generalize hm.choose = j at h2
  rcases Nat.lt_trichotomy j i with q | q | q
  · have := h.2.1 j (by have := h.1; omega) q; have := h2.2.2 j (by have := h.1; omega) (Nat.le_refl _); omega
  · exact q
  · have := h2.2.1 i (by have := h2.1; omega) q; have := h.2.2 i (by have := h2.1; omega) (Nat.le_refl _); omega
def insA (L : List Asc) (i : Nat) (t : Asc) : List Asc := L.take i ++ t :: L.drop i
noncomputable def startF (L : List Asc) (s : Int) (x : Xid) : List Asc × Int :=
  if mayN L s x = 0 then (if (actA L s).isSome = true then ([], 9) else match idxA L s x with
    | none => (insA L (placeN L (s, x, false)) (s, x, false), 0)
    | some k => ([], 8)) else ([], mayN L s x)

set_option maxRecDepth 100000 in
set_option maxHeartbeats 1600000 in
theorem resume_any (w : World) (v : Value) (L : List Asc) (s : Int) (y : Xid) (hs : Slc ascEnc 5 w v L) (hL : L.length ≤ 1000000) :
    Calls Try.prog 55 #[v, .int .u64 s, .agg #[.int .u32 y.1, .string y.2.1, .string y.2.2]] w (TurnPost w (resumeF L s y)) := by
  obtain ⟨yf, yg, yb⟩ := y
  simp only
  have hB0 := (Below.refl w.heap.size w).alloc (Nat.le_refl _) (.cells #[.int .u32 yf, .string yg, .string yb] 28)
  have b0 := Blk.new w [.int .u32 yf, .string yg, .string yb] 28
  have hm := may_any (w.alloc (.cells #[.int .u32 yf, .string yg, .string yb] 28)) v L s (yf, yg, yb) (hs.pure hB0) hL
  unfold resumeF
  obtain ⟨c, hc⟩ : ∃ c, c = mayN L s (yf, yg, yb) := ⟨_, rfl⟩
  rw [← hc] at hm ⊢
  have hm' := Lib.hid hm; clear hm
  by_cases hz : c = 0
  · rw [hz] at hm' hc
    have hzb : (c != 0) = false := by rw [hz]; rfl
    rw [if_pos hz]
    obtain ⟨h1, hs0, hx0⟩ := may_zero hc.symm
    have hr := Lib.hid h1.rises
    clear hc hz hs0 hx0 h1
    have hac := Lib.hid (fun (w1 : World) (h : Below w.heap.size w w1) => active_any w1 v L s (hs.pure h) hL)
    obtain ⟨o, ho⟩ : ∃ o, o = actA L s := ⟨_, rfl⟩
    rw [← ho] at hac ⊢
    clear ho
    obtain ⟨⟨xf, xg, xb⟩, hxx⟩ : ∃ x, x = optX o := ⟨_, rfl⟩
    rw [← hxx] at hac
    clear hxx
    obtain ⟨is, his⟩ : ∃ is, is = o.isSome := ⟨_, rfl⟩
    rw [← his] at hac ⊢
    clear his o
    cases is
    rotate_left 1
    · rw [if_pos rfl]
      obtain ⟨a, n, cap, rfl⟩ := hs.shape3
      clear hs
      go_enter Try.func55, Try.ntmps55
      go_wp2_with (first | (go_at_call 103; refine hm'.out.mono ?_; rintro e w1 ⟨rfl, hB1⟩; have hB1t := hB0.trans (hB1.mono (by simp)); have b1 := b0.pure hB1; have d0 : w1.cell? ⟨w.heap.size, 0, none⟩ = some (.int .u32 yf) := b1.cell 0; have d1 : w1.cell? ⟨w.heap.size, 1, none⟩ = some (.string yg) := b1.cell 1; have d2 : w1.cell? ⟨w.heap.size, 2, none⟩ = some (.string yb) := b1.cell 2) | (go_at_call 49; refine (hac.out _ hB1t).mono ?_; rintro e w2 ⟨rfl, hB2⟩; have hB2t := hB1t.trans (hB2.mono hB1t.size); have b2 := b1.pure hB2; have hB4t := hB2t.alloc hB2t.size (.cells #[.int .u32 xf, .string xg, .string xb] 28); have b4 := b2.alloc (.cells #[.int .u32 xf, .string xg, .string xb] 28); clear d0 d1 d2; have d0 : (w2.alloc (.cells #[.int .u32 xf, .string xg, .string xb] 28)).cell? ⟨w.heap.size, 0, none⟩ = some (.int .u32 yf) := b4.cell 0; have d1 : (w2.alloc (.cells #[.int .u32 xf, .string xg, .string xb] 28)).cell? ⟨w.heap.size, 1, none⟩ = some (.string yg) := b4.cell 1; have d2 : (w2.alloc (.cells #[.int .u32 xf, .string xg, .string xb] 28)).cell? ⟨w.heap.size, 2, none⟩ = some (.string yb) := b4.cell 2))
      go_ret2
      exact ⟨_, rfl, Own.nil, hB4t⟩
    rw [if_neg (by simp)]
    rcases Classical.em (Mem L s (yf, yg, yb)) with hm | hm
    · obtain ⟨k, hk, he⟩ := hm
      rw [idx_yes hr.out hk he]
      have he' := Lib.hid he; clear he
      obtain ⟨a, cap, rfl, hm⟩ := hs.len
      obtain ⟨g, off, rfl⟩ := hs.addr hk
      clear hm
      have hat := Lib.hid (fun (w1 : World) (h : Below w.heap.size w w1) => at_yes w1 _ L s (yf, yg, yb) k (hs.pure h) hr.out hL hk he'.out)
      have hst := Lib.hid (fun (w1 : World) (h : Below w.heap.size w w1) => set_any w1 _ L k false (hs.pure h) hL hk)
      clear hs
      go_enter Try.func55, Try.ntmps55
      go_wp2_with (first | (go_at_call 103; refine hm'.out.mono ?_; rintro e w1 ⟨rfl, hB1⟩; have hB1t := hB0.trans (hB1.mono (by simp)); have b1 := b0.pure hB1; have d0 : w1.cell? ⟨w.heap.size, 0, none⟩ = some (.int .u32 yf) := b1.cell 0; have d1 : w1.cell? ⟨w.heap.size, 1, none⟩ = some (.string yg) := b1.cell 1; have d2 : w1.cell? ⟨w.heap.size, 2, none⟩ = some (.string yb) := b1.cell 2) | (go_at_call 49; refine (hac.out _ hB1t).mono ?_; rintro e w2 ⟨rfl, hB2⟩; have hB2t := hB1t.trans (hB2.mono hB1t.size); have b2 := b1.pure hB2; have hB4t := hB2t.alloc hB2t.size (.cells #[.int .u32 xf, .string xg, .string xb] 28); have b4 := b2.alloc (.cells #[.int .u32 xf, .string xg, .string xb] 28); clear d0 d1 d2; have d0 : (w2.alloc (.cells #[.int .u32 xf, .string xg, .string xb] 28)).cell? ⟨w.heap.size, 0, none⟩ = some (.int .u32 yf) := b4.cell 0; have d1 : (w2.alloc (.cells #[.int .u32 xf, .string xg, .string xb] 28)).cell? ⟨w.heap.size, 1, none⟩ = some (.string yg) := b4.cell 1; have d2 : (w2.alloc (.cells #[.int .u32 xf, .string xg, .string xb] 28)).cell? ⟨w.heap.size, 2, none⟩ = some (.string yb) := b4.cell 2) | (go_at_call 104; refine (hat.out _ hB4t).mono ?_; rintro e w3 ⟨rfl, hB3⟩; have hB3t := hB4t.trans (hB3.mono hB4t.size); have b3 := b4.pure hB3) | (go_at_call 106; refine (hst.out _ hB3t).mono ?_; rintro e w5 ⟨r, rfl, hO, hB5⟩))
      go_ret2
      exact ⟨r, rfl, by simp only []; rw [suspA_eq hk]; exact hO.rebase (fun j hj => Nat.le_trans hB3t.size (hO.ge hj)), hB3t.trans (hB5.mono hB3t.size)⟩
    · rw [idx_no hm]
      have hat := Lib.hid (fun (w1 : World) (h : Below w.heap.size w w1) => at_no w1 v L s (yf, yg, yb) (hs.pure h) hr.out hL hm)
      obtain ⟨a, n, cap, rfl⟩ := hs.shape3
      clear hs hm
      go_enter Try.func55, Try.ntmps55
      go_wp2_with (first | (go_at_call 103; refine hm'.out.mono ?_; rintro e w1 ⟨rfl, hB1⟩; have hB1t := hB0.trans (hB1.mono (by simp)); have b1 := b0.pure hB1; have d0 : w1.cell? ⟨w.heap.size, 0, none⟩ = some (.int .u32 yf) := b1.cell 0; have d1 : w1.cell? ⟨w.heap.size, 1, none⟩ = some (.string yg) := b1.cell 1; have d2 : w1.cell? ⟨w.heap.size, 2, none⟩ = some (.string yb) := b1.cell 2) | (go_at_call 49; refine (hac.out _ hB1t).mono ?_; rintro e w2 ⟨rfl, hB2⟩; have hB2t := hB1t.trans (hB2.mono hB1t.size); have b2 := b1.pure hB2; have hB4t := hB2t.alloc hB2t.size (.cells #[.int .u32 xf, .string xg, .string xb] 28); have b4 := b2.alloc (.cells #[.int .u32 xf, .string xg, .string xb] 28); clear d0 d1 d2; have d0 : (w2.alloc (.cells #[.int .u32 xf, .string xg, .string xb] 28)).cell? ⟨w.heap.size, 0, none⟩ = some (.int .u32 yf) := b4.cell 0; have d1 : (w2.alloc (.cells #[.int .u32 xf, .string xg, .string xb] 28)).cell? ⟨w.heap.size, 1, none⟩ = some (.string yg) := b4.cell 1; have d2 : (w2.alloc (.cells #[.int .u32 xf, .string xg, .string xb] 28)).cell? ⟨w.heap.size, 2, none⟩ = some (.string yb) := b4.cell 2) | (go_at_call 104; refine (hat.out _ hB4t).mono ?_; rintro e w3 ⟨i, hi, rfl, hB3⟩; have hB3t := hB4t.trans (hB3.mono hB4t.size); have b3 := b4.pure hB3))
      go_ret2
      exact ⟨_, rfl, Own.nil, hB3t⟩
  · have hzb : (c != 0) = true := bne_iff_ne.2 hz
    rw [if_neg hz]
    obtain ⟨a, n, cap, rfl⟩ := hs.shape3
    clear hs hz hc
    go_enter Try.func55, Try.ntmps55
    go_wp2_with (go_at_call 103; refine hm'.out.mono ?_; rintro e w1 ⟨rfl, hB1⟩; have hB1t := hB0.trans (hB1.mono (by simp)); have b1 := b0.pure hB1; have d0 : w1.cell? ⟨w.heap.size, 0, none⟩ = some (.int .u32 yf) := b1.cell 0; have d1 : w1.cell? ⟨w.heap.size, 1, none⟩ = some (.string yg) := b1.cell 1; have d2 : w1.cell? ⟨w.heap.size, 2, none⟩ = some (.string yb) := b1.cell 2)
    go_ret2
    exact ⟨_, rfl, Own.nil, hB1t⟩

set_option maxRecDepth 100000 in
set_option maxHeartbeats 1600000 in
theorem start_any (w : World) (v : Value) (L : List Asc) (s : Int) (y : Xid) (hs : Slc ascEnc 5 w v L) (hL : L.length ≤ 1000000) :
    Calls Try.prog 53 #[v, .int .u64 s, .agg #[.int .u32 y.1, .string y.2.1, .string y.2.2]] w (TurnPost w (startF L s y)) := by
  obtain ⟨yf, yg, yb⟩ := y
  simp only
  have hB0 := (Below.refl w.heap.size w).alloc (Nat.le_refl _) (.cells #[.int .u32 yf, .string yg, .string yb] 28)
  have b0 := Blk.new w [.int .u32 yf, .string yg, .string yb] 28
  have hm := may_any (w.alloc (.cells #[.int .u32 yf, .string yg, .string yb] 28)) v L s (yf, yg, yb) (hs.pure hB0) hL
  unfold startF
  obtain ⟨c, hc⟩ : ∃ c, c = mayN L s (yf, yg, yb) := ⟨_, rfl⟩
  rw [← hc] at hm ⊢
  have hm' := Lib.hid hm; clear hm
  by_cases hz : c = 0
  · rw [hz] at hm' hc
    have hzb : (c != 0) = false := by rw [hz]; rfl
    rw [if_pos hz]
    obtain ⟨h1, hs0, hx0⟩ := may_zero hc.symm
    have hr := Lib.hid h1.rises
    clear hc hz hs0 hx0 h1
    have hac := Lib.hid (fun (w1 : World) (h : Below w.heap.size w w1) => active_any w1 v L s (hs.pure h) hL)
    obtain ⟨o, ho⟩ : ∃ o, o = actA L s := ⟨_, rfl⟩
    rw [← ho] at hac ⊢
    clear ho
    obtain ⟨⟨xf, xg, xb⟩, hxx⟩ : ∃ x, x = optX o := ⟨_, rfl⟩
    rw [← hxx] at hac
    clear hxx
    obtain ⟨is, his⟩ : ∃ is, is = o.isSome := ⟨_, rfl⟩
    rw [← his] at hac ⊢
    clear his o
    cases is
    rotate_left 1
    · rw [if_pos rfl]
      obtain ⟨a, n, cap, rfl⟩ := hs.shape3
      clear hs
      go_enter Try.func53, Try.ntmps53
      go_wp2_with (first | (go_at_call 103; refine hm'.out.mono ?_; rintro e w1 ⟨rfl, hB1⟩; have hB1t := hB0.trans (hB1.mono (by simp)); have b1 := b0.pure hB1; have d0 : w1.cell? ⟨w.heap.size, 0, none⟩ = some (.int .u32 yf) := b1.cell 0; have d1 : w1.cell? ⟨w.heap.size, 1, none⟩ = some (.string yg) := b1.cell 1; have d2 : w1.cell? ⟨w.heap.size, 2, none⟩ = some (.string yb) := b1.cell 2) | (go_at_call 49; refine (hac.out _ hB1t).mono ?_; rintro e w2 ⟨rfl, hB2⟩; have hB2t := hB1t.trans (hB2.mono hB1t.size); have b2 := b1.pure hB2; have hB4t := hB2t.alloc hB2t.size (.cells #[.int .u32 xf, .string xg, .string xb] 28); have b4 := b2.alloc (.cells #[.int .u32 xf, .string xg, .string xb] 28); clear d0 d1 d2; have d0 : (w2.alloc (.cells #[.int .u32 xf, .string xg, .string xb] 28)).cell? ⟨w.heap.size, 0, none⟩ = some (.int .u32 yf) := b4.cell 0; have d1 : (w2.alloc (.cells #[.int .u32 xf, .string xg, .string xb] 28)).cell? ⟨w.heap.size, 1, none⟩ = some (.string yg) := b4.cell 1; have d2 : (w2.alloc (.cells #[.int .u32 xf, .string xg, .string xb] 28)).cell? ⟨w.heap.size, 2, none⟩ = some (.string yb) := b4.cell 2))
      go_ret2
      exact ⟨_, rfl, Own.nil, hB4t⟩
    rw [if_neg (by simp)]
    rcases Classical.em (Mem L s (yf, yg, yb)) with hm | hm
    · obtain ⟨k, hk, he⟩ := hm
      rw [idx_yes hr.out hk he]
      have he' := Lib.hid he; clear he
      obtain ⟨a, cap, rfl, hm⟩ := hs.len
      have hat := Lib.hid (fun (w1 : World) (h : Below w.heap.size w w1) => at_yes w1 _ L s (yf, yg, yb) k (hs.pure h) hr.out hL hk he'.out)
      clear hs
      go_enter Try.func53, Try.ntmps53
      go_wp2_with (first | (go_at_call 103; refine hm'.out.mono ?_; rintro e w1 ⟨rfl, hB1⟩; have hB1t := hB0.trans (hB1.mono (by simp)); have b1 := b0.pure hB1; have d0 : w1.cell? ⟨w.heap.size, 0, none⟩ = some (.int .u32 yf) := b1.cell 0; have d1 : w1.cell? ⟨w.heap.size, 1, none⟩ = some (.string yg) := b1.cell 1; have d2 : w1.cell? ⟨w.heap.size, 2, none⟩ = some (.string yb) := b1.cell 2) | (go_at_call 49; refine (hac.out _ hB1t).mono ?_; rintro e w2 ⟨rfl, hB2⟩; have hB2t := hB1t.trans (hB2.mono hB1t.size); have b2 := b1.pure hB2; have hB4t := hB2t.alloc hB2t.size (.cells #[.int .u32 xf, .string xg, .string xb] 28); have b4 := b2.alloc (.cells #[.int .u32 xf, .string xg, .string xb] 28); clear d0 d1 d2; have d0 : (w2.alloc (.cells #[.int .u32 xf, .string xg, .string xb] 28)).cell? ⟨w.heap.size, 0, none⟩ = some (.int .u32 yf) := b4.cell 0; have d1 : (w2.alloc (.cells #[.int .u32 xf, .string xg, .string xb] 28)).cell? ⟨w.heap.size, 1, none⟩ = some (.string yg) := b4.cell 1; have d2 : (w2.alloc (.cells #[.int .u32 xf, .string xg, .string xb] 28)).cell? ⟨w.heap.size, 2, none⟩ = some (.string yb) := b4.cell 2) | (go_at_call 104; refine (hat.out _ hB4t).mono ?_; rintro e w3 ⟨rfl, hB3⟩; have hB3t := hB4t.trans (hB3.mono hB4t.size); have b3 := b4.pure hB3))
      go_ret2
      exact ⟨_, rfl, Own.nil, hB3t⟩
    · rw [idx_no hm]
      have hat := Lib.hid (fun (w1 : World) (h : Below w.heap.size w w1) => at_no w1 v L s (yf, yg, yb) (hs.pure h) hr.out hL hm)
      obtain ⟨a, n, cap, rfl⟩ := hs.shape3
      have hcl := Lib.hid (fun (w1 : World) (h : Below w.heap.size w w1) => asc_clone w1 _ L (hs.pure h) hL)
      clear hs hm
      go_enter Try.func53, Try.ntmps53
      go_wp2_with (first | (go_at_call 103; refine hm'.out.mono ?_; rintro e w1 ⟨rfl, hB1⟩; have hB1t := hB0.trans (hB1.mono (by simp)); have b1 := b0.pure hB1; have d0 : w1.cell? ⟨w.heap.size, 0, none⟩ = some (.int .u32 yf) := b1.cell 0; have d1 : w1.cell? ⟨w.heap.size, 1, none⟩ = some (.string yg) := b1.cell 1; have d2 : w1.cell? ⟨w.heap.size, 2, none⟩ = some (.string yb) := b1.cell 2) | (go_at_call 49; refine (hac.out _ hB1t).mono ?_; rintro e w2 ⟨rfl, hB2⟩; have hB2t := hB1t.trans (hB2.mono hB1t.size); have b2 := b1.pure hB2; have hB4t := hB2t.alloc hB2t.size (.cells #[.int .u32 xf, .string xg, .string xb] 28); have b4 := b2.alloc (.cells #[.int .u32 xf, .string xg, .string xb] 28); clear d0 d1 d2; have d0 : (w2.alloc (.cells #[.int .u32 xf, .string xg, .string xb] 28)).cell? ⟨w.heap.size, 0, none⟩ = some (.int .u32 yf) := b4.cell 0; have d1 : (w2.alloc (.cells #[.int .u32 xf, .string xg, .string xb] 28)).cell? ⟨w.heap.size, 1, none⟩ = some (.string yg) := b4.cell 1; have d2 : (w2.alloc (.cells #[.int .u32 xf, .string xg, .string xb] 28)).cell? ⟨w.heap.size, 2, none⟩ = some (.string yb) := b4.cell 2) | (go_at_call 104; refine (hat.out _ hB4t).mono ?_; rintro e w3 ⟨i, hi, rfl, hB3⟩; have hB3t := hB4t.trans (hB3.mono hB4t.size); have b3 := b4.pure hB3; have e0 : w3.cell? ⟨w.heap.size, 0, none⟩ = some (.int .u32 yf) := b3.cell 0; have e1 : w3.cell? ⟨w.heap.size, 1, none⟩ = some (.string yg) := b3.cell 1; have e2 : w3.cell? ⟨w.heap.size, 2, none⟩ = some (.string yb) := b3.cell 2))
      have hi' := Lib.hid hi; clear hi
      have hR0 := hB3t.alloc hB3t.size (.cells #[.int .u64 s, .int .u32 yf, .string yg, .string yb, .bool false] 57)
      have bR := b3.alloc (.cells #[.int .u64 s, .int .u32 yf, .string yg, .string yb, .bool false] 57)
      have bW := Blk.new w3 [.int .u64 s, .int .u32 yf, .string yg, .string yb, .bool false] 57
      have hD3 := below_dr hB3t
      have n0 : (w3.alloc (.cells #[.int .u64 s, .int .u32 yf, .string yg, .string yb, .bool false] 57)).cell? ⟨w.heap.size, 0, none⟩ = some (.int .u32 yf) := bR.cell 0; have n1 : (w3.alloc (.cells #[.int .u64 s, .int .u32 yf, .string yg, .string yb, .bool false] 57)).cell? ⟨w.heap.size, 1, none⟩ = some (.string yg) := bR.cell 1; have n2 : (w3.alloc (.cells #[.int .u64 s, .int .u32 yf, .string yg, .string yb, .bool false] 57)).cell? ⟨w.heap.size, 2, none⟩ = some (.string yb) := bR.cell 2
      have bWW : Blk (w3.alloc (.cells #[.int .u64 s, .int .u32 yf, .string yg, .string yb, .bool false] 57)) w3.heap.size (ascEnc (s, (yf, yg, yb), false)) := bW
      clear bW
      obtain ⟨wR, hwR0⟩ : ∃ wR, wR = w3.alloc (.cells #[.int .u64 s, .int .u32 yf, .string yg, .string yb, .bool false] 57) := ⟨_, rfl⟩
      rw [← hwR0] at hR0 bR bWW
      have hwR := Lib.hid hwR0; clear hwR0
      have hDR := below_dr hR0
      go_region_held3 (fun w' => w'.cell? ⟨w.heap.size, 0, none⟩ = some (.int .u32 yf) ∧ w'.cell? ⟨w.heap.size, 1, none⟩ = some (.string yg) ∧ w'.cell? ⟨w.heap.size, 2, none⟩ = some (.string yb)) (first | exact ⟨e0, e1, e2⟩ | exact ⟨n0, n1, n2⟩ | exact ⟨g0, g1, g2⟩ | exact ⟨k0, k1, k2⟩ | exact ⟨m0, m1, m2⟩) (first | (go_at_call 101; rw [← hwR.out]; refine (hcl.out _ hDR).mono ?_; rintro e w5 ⟨r, rfl, hO, hB5⟩; have b5 := bR.drew.pure hB5; have bW5 := bWW.drew.pure hB5; have g0 : w5.cell? ⟨w.heap.size, 0, none⟩ = some (.int .u32 yf) := b5.cell 0; have g1 : w5.cell? ⟨w.heap.size, 1, none⟩ = some (.string yg) := b5.cell 1; have g2 : w5.cell? ⟨w.heap.size, 2, none⟩ = some (.string yb) := b5.cell 2; clear n0 n1 n2) | (go_at_call 101; refine (hcl.out _ hD3).mono ?_; rintro e w5 ⟨r, rfl, hO, hB5⟩; have b5 := b3.drew.pure hB5; have g0 : w5.cell? ⟨w.heap.size, 0, none⟩ = some (.int .u32 yf) := b5.cell 0; have g1 : w5.cell? ⟨w.heap.size, 1, none⟩ = some (.string yg) := b5.cell 1; have g2 : w5.cell? ⟨w.heap.size, 2, none⟩ = some (.string yb) := b5.cell 2; have b6 := b5.alloc (.cells #[.int .u64 s, .int .u32 yf, .string yg, .string yb, .bool false] 57); have bN : Blk (w5.alloc (.cells #[.int .u64 s, .int .u32 yf, .string yg, .string yb, .bool false] 57)) w5.heap.size (ascEnc (s, (yf, yg, yb), false)) := Blk.new w5 [.int .u64 s, .int .u32 yf, .string yg, .string yb, .bool false] 57; have k0 : (w5.alloc (.cells #[.int .u64 s, .int .u32 yf, .string yg, .string yb, .bool false] 57)).cell? ⟨w.heap.size, 0, none⟩ = some (.int .u32 yf) := b6.cell 0; have k1 : (w5.alloc (.cells #[.int .u64 s, .int .u32 yf, .string yg, .string yb, .bool false] 57)).cell? ⟨w.heap.size, 1, none⟩ = some (.string yg) := b6.cell 1; have k2 : (w5.alloc (.cells #[.int .u64 s, .int .u32 yf, .string yg, .string yb, .bool false] 57)).cell? ⟨w.heap.size, 2, none⟩ = some (.string yb) := b6.cell 2; clear e0 e1 e2) | (go_at_call 105; have qq := bN; clear qq; refine (asc_insert _ r i L (s, (yf, yg, yb), false) w5.heap.size (hO.alloc _) ?_ hL hi'.out.1 bN ?_).mono ?_; exact Nat.le_trans hB5.size (by simp); (intro e; exact absurd (hO.lt e) (Nat.lt_irrefl _)); rintro e w7 ⟨q, rfl, hO7, hU7, hq7⟩; have b7 := b6.upd hU7 (fun h => Nat.lt_irrefl _ (Nat.lt_of_lt_of_le b3.lt (hO.ge h))); have m0 : w7.cell? ⟨w.heap.size, 0, none⟩ = some (.int .u32 yf) := b7.cell 0; have m1 : w7.cell? ⟨w.heap.size, 1, none⟩ = some (.string yg) := b7.cell 1; have m2 : w7.cell? ⟨w.heap.size, 2, none⟩ = some (.string yb) := b7.cell 2) | (go_at_call 105; have qq := bW5; clear qq; refine (asc_insert _ r i L (s, (yf, yg, yb), false) w3.heap.size hO ?_ hL hi'.out.1 bW5 ?_).mono ?_; exact hB5.size; (intro e; exact absurd (Nat.lt_of_lt_of_le bWW.lt (hO.ge e)) (Nat.lt_irrefl _)); rintro e w7 ⟨q, rfl, hO7, hU7, hq7⟩; have b7 := b5.upd hU7 (fun h => Nat.lt_irrefl _ (Nat.lt_of_lt_of_le bR.lt (hO.ge h))); have m0 : w7.cell? ⟨w.heap.size, 0, none⟩ = some (.int .u32 yf) := b7.cell 0; have m1 : w7.cell? ⟨w.heap.size, 1, none⟩ = some (.string yg) := b7.cell 1; have m2 : w7.cell? ⟨w.heap.size, 2, none⟩ = some (.string yb) := b7.cell 2))
      all_goals go_wp2
      all_goals go_ret2
      · have hA5 := (below_dr hB3t).trans (hB5.mono hB3t.size)
        have hA6 := hA5.alloc hA5.size (.cells #[.int .u64 s, .int .u32 yf, .string yg, .string yb, .bool false] 57)
        exact ⟨q, rfl, by rw [place_eq hi'.out]; exact hO7.rebase (fun j hj => Nat.le_trans hB3t.size (hO7.ge hj)), hA6.trans (hU7.below hA6.size (fun j hj => Nat.le_trans hB3t.size (hO.ge hj)))⟩
      · have hA5 := (below_dr hR0).trans (hB5.mono hR0.size)
        exact ⟨q, rfl, by rw [place_eq hi'.out]; exact hO7.rebase (fun j hj => Nat.le_trans hR0.size (hO7.ge hj)), hA5.trans (hU7.below hA5.size (fun j hj => Nat.le_trans hR0.size (hO.ge hj)))⟩
  · have hzb : (c != 0) = true := bne_iff_ne.2 hz
    rw [if_neg hz]
    obtain ⟨a, n, cap, rfl⟩ := hs.shape3
    clear hs hz hc
    go_enter Try.func53, Try.ntmps53
    go_wp2_with (go_at_call 103; refine hm'.out.mono ?_; rintro e w1 ⟨rfl, hB1⟩; have hB1t := hB0.trans (hB1.mono (by simp)); have b1 := b0.pure hB1; have d0 : w1.cell? ⟨w.heap.size, 0, none⟩ = some (.int .u32 yf) := b1.cell 0; have d1 : w1.cell? ⟨w.heap.size, 1, none⟩ = some (.string yg) := b1.cell 1; have d2 : w1.cell? ⟨w.heap.size, 2, none⟩ = some (.string yb) := b1.cell 2)
    go_ret2
    exact ⟨_, rfl, Own.nil, hB1t⟩
end Go.Proofs.Ytcelpincmpjhkaa
