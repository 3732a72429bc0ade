/- Package assoc: at, may, without. Conditions: the row reads as associations; at most a million. -/
import Derived.Test.YtcelpincmpjhkaaAssocC
import Derived.Test.YtcelpincmpjhkaaAssocClone
namespace Go.Proofs.Ytcelpincmpjhkaa
open Go.RowKit
set_option linter.unusedVariables false

set_option maxHeartbeats 800000 in
theorem at_any (w : World) (v : Value) (L : List Asc) (s : Int) (x : Xid) (hs : Slc ascEnc 5 w v L) (hr : Rises L) (hL : L.length ≤ 1000000) :
    Calls Try.prog 104 #[v, .int .u64 s, .agg #[.int .u32 x.1, .string x.2.1, .string x.2.2]] w (BinPost w L (s, x, false)) := by
  have hb := fun (w1 : World) (hB : Below w.heap.size w w1) => bin_any w1 v L (s, x, false) (hs.pure hB) hr hL
  have hb' := Lib.hid hb
  obtain ⟨a, n, cap, rfl⟩ := hs.shape3
  clear hb hr
  go_enter Try.func104, Try.ntmps104
  go_wp2_with (go_at_call 123; refine (hb'.out _ ?_).mono ?_; (first | exact (Below.refl _ _).alloc (Nat.le_refl _) _ | exact Below.refl _ _); rintro e w1 ⟨i, hi, rfl, hB1⟩)
  go_ret2
  exact ⟨i, hi, rfl, ((Below.refl _ _).alloc (Nat.le_refl _) _).trans (hB1.mono (by simp))⟩

/-- Why a call cannot be. -/
noncomputable def mayN (L : List Asc) (s : Int) (x : Xid) : Int := if rowE L ≠ 0 then 180 else if s = 0 then 2 else if XidOk x then 0 else 40
theorem rowE_cases (L : List Asc) : (RowA L ∧ rowE L = 0) ∨ (¬ RowA L ∧ rowE L = 180) := by
  rcases Classical.em (RowA L) with h | h
  · exact .inl ⟨h, rowE_yes h⟩
  · exact .inr ⟨h, rowE_no h⟩
theorem may_zero {L : List Asc} {s : Int} {x : Xid} (h : mayN L s x = 0) : RowA L ∧ s ≠ 0 ∧ XidOk x := by
  unfold mayN at h
  rcases rowE_cases L with ⟨h1, h2⟩ | ⟨h1, h2⟩
  · rw [h2, if_neg (by simp)] at h
    by_cases hs : s = 0
    · rw [if_pos hs] at h; omega
    · rw [if_neg hs] at h
      by_cases hx : XidOk x
      · exact ⟨h1, hs, hx⟩
      · rw [if_neg hx] at h; omega
  · rw [h2, if_pos (by simp)] at h; omega

set_option maxHeartbeats 800000 in
theorem may_any (w : World) (v : Value) (L : List Asc) (s : Int) (x : Xid) (hs : Slc ascEnc 5 w v L) (hL : L.length ≤ 1000000) :
    Calls Try.prog 103 #[v, .int .u64 s, .agg #[.int .u32 x.1, .string x.2.1, .string x.2.2]] w fun e w' => e = .returned (.int .i64 (mayN L s x)) ∧ Below w.heap.size w w' := by
  obtain ⟨xf, xg, xb⟩ := x
  simp only
  have hB0 := (Below.refl w.heap.size w).alloc (Nat.le_refl _) (.cells #[.int .u32 xf, .string xg, .string xb] 28)
  have b0 := Blk.new w [.int .u32 xf, .string xg, .string xb] 28
  have hc := check_any (w.alloc (.cells #[.int .u32 xf, .string xg, .string xb] 28)) v L (hs.pure hB0) hL
  unfold mayN
  rcases rowE_cases L with ⟨h1, h2⟩ | ⟨h1, h2⟩
  · rw [h2] at hc ⊢
    rw [if_neg (by simp)]
    by_cases hz : s = 0
    · rw [if_pos hz]
      have hzb : (s == 0) = true := by rw [hz]; rfl
      clear hz h2
      go_enter Try.func103, Try.ntmps103
      go_wp2_with (go_at_call 78; refine hc.mono ?_; clear hc; rintro e w1 ⟨rfl, hB1⟩)
      go_ret
      exact ⟨rfl, hB0.trans (hB1.mono (by simp))⟩
    · rw [if_neg hz]
      have hzb : (s == 0) = false := beq_eq_false_iff_ne.2 hz
      clear hz h2
      obtain ⟨cx, hcx⟩ : ∃ cx, (if XidOk (xf, xg, xb) then (0 : Int) else 40) = cx := ⟨_, rfl⟩
      rw [hcx]
      have hcx' := Lib.hid hcx; clear hcx
      go_enter Try.func103, Try.ntmps103
      go_wp2_with (first | (go_at_call 78; refine hc.mono ?_; clear hc; rintro e w1 ⟨rfl, hB1⟩; have b1 := b0.pure hB1; have c0 : w1.cell? ⟨w.heap.size, 0, none⟩ = some (.int .u32 xf) := b1.cell 0; have c1 : w1.cell? ⟨w.heap.size, 1, none⟩ = some (.string xg) := b1.cell 1; have c2 : w1.cell? ⟨w.heap.size, 2, none⟩ = some (.string xb) := b1.cell 2) | (go_at_call 99; refine (xid_chk _ (xf, xg, xb) _ hcx'.out).mono ?_; rintro e w2 ⟨rfl, hB2⟩))
      go_ret
      have hB3 := hB0.trans (hB1.mono (by simp))
      exact ⟨rfl, hB3.trans (hB2.mono hB3.size)⟩
  · rw [h2] at hc ⊢
    rw [if_pos (by simp)]
    clear h2
    go_enter Try.func103, Try.ntmps103
    go_wp2_with (go_at_call 78; refine hc.mono ?_; clear hc; rintro e w1 ⟨rfl, hB1⟩)
    go_ret
    exact ⟨rfl, hB0.trans (hB1.mono (by simp))⟩

theorem session_any (w : World) (a : Asc) :
    Calls Try.prog 120 #[.agg #[.int .u64 a.1, .int .u32 a.2.1.1, .string a.2.1.2.1, .string a.2.1.2.2, .bool a.2.2]] w fun e w' => e = .returned (.int .u64 a.1) ∧ Below w.heap.size w w' := by
  go_enter Try.func120, Try.ntmps120
  go_wp2
  go_ret
  exact ⟨rfl, (Below.refl _ _).alloc (Nat.le_refl _) _⟩
theorem name_any (w : World) (a : Asc) :
    Calls Try.prog 130 #[.agg #[.int .u64 a.1, .int .u32 a.2.1.1, .string a.2.1.2.1, .string a.2.1.2.2, .bool a.2.2]] w fun e w' => e = .returned (.agg #[.int .u32 a.2.1.1, .string a.2.1.2.1, .string a.2.1.2.2]) ∧ Below w.heap.size w w' := by
  go_enter Try.func130, Try.ntmps130
  go_wp2
  exact bodyPost_ret (v := .agg #[.int .u32 a.2.1.1, .string a.2.1.2.1, .string a.2.1.2.2]) (by simp [results, Try.results130, go_sem]) rfl ⟨rfl, ((Below.refl _ _).alloc (Nat.le_refl _) _).alloc (by simp) _⟩

theorem filter_snoc {p : Asc → Bool} {L : List Asc} {k : Nat} (h : k < L.length) : (L.take (k + 1)).filter p = (L.take k).filter p ++ (if p L[k] = true then [L[k]] else []) := by
  rw [List.take_succ_eq_append_getElem h, List.filter_append]; simp [List.filter_cons]

set_option maxRecDepth 100000 in
set_option maxHeartbeats 1600000 in
theorem without_ses (w : World) (v : Value) (L : List Asc) (s : Int) (hs : Slc ascEnc 5 w v L) (hL : L.length ≤ 1000000) :
    Calls Try.prog 119 #[v, .func (.func 120) #[] #[], .int .u64 s] w fun e w' => ∃ r, e = .returned r ∧ Own w.heap.size 57 5 ascEnc w' r (L.filter (fun a => a.1 != s)) ∧ Below w.heap.size w w' := by
  obtain ⟨a, cap, rfl, hm⟩ := hs.len
  unfold maxLen at hm
  go_enter Try.func119, Try.ntmps119
  go_wp2
  go_loopw [7, 12] (fun s7 s12 wr => ∃ k : Nat, k ≤ L.length ∧ s12 = .int .i64 k ∧ Own w.heap.size 57 5 ascEnc wr s7 ((L.take k).filter (fun a => a.1 != s)) ∧ Below w.heap.size w wr) (fun _ s12 _ => L.length - (intOf s12).toNat)
  case atStart => exact ⟨0, by omega, rfl, Own.nil, Below.refl _ _⟩
  case round =>
    obtain ⟨k, hk, rfl, hO, hB⟩ := hrel
    have hBs := hB.size
    by_cases hlt : k < L.length
    · have hsr := hs.pure hB
      obtain ⟨g, off, rfl⟩ := hsr.addr hlt
      obtain ⟨c0, c1, c2, c3, c4⟩ := asc_cells hsr hlt
      have hll : ((L.take k).filter (fun a => a.1 != s)).length ≤ k := Nat.le_trans (List.length_filter_le _ _) (by rw [List.length_take]; omega)
      have hkeq := Lib.hid (filter_snoc (p := fun a => a.1 != s) hlt)
      obtain ⟨x, hx⟩ : ∃ x, x = L[k] := ⟨_, rfl⟩
      rw [← hx] at c0 c1 c2 c3 c4 hkeq
      clear hx
      obtain ⟨xs, ⟨xf, xg, xb⟩, xz⟩ := x
      simp only at c0 c1 c2 c3 c4 hkeq
      have b0 := Blk.new wr (ascEnc (xs, (xf, xg, xb), xz)) 57
      have hBb := hB.alloc hBs (.cells (ascEnc (xs, (xf, xg, xb), xz)).toArray 57)
      have hOb := hO.alloc (.cells (ascEnc (xs, (xf, xg, xb), xz)).toArray 57)
      cases hq : (xs != s)
      · have hnew := Lib.hid (show (L.take (k + 1)).filter (fun a => a.1 != s) = (L.take k).filter (fun a => a.1 != s) by rw [hkeq.out, hq]; simp)
        go_wp2_with (go_at_call 120; refine (session_any _ (xs, (xf, xg, xb), xz)).mono ?_; rintro e w1 ⟨rfl, hB1⟩; have hO1 := hOb.pure hB1; have hB2 := hBb.trans (hB1.mono hBb.size))
        go_roundw
        case rel => exact ⟨k + 1, by omega, by go_num, by rw [hnew.out]; exact hO1, hB2⟩
        case measure => simp [intOf]; omega
      · have hnew := Lib.hid (show (L.take (k + 1)).filter (fun a => a.1 != s) = (L.take k).filter (fun a => a.1 != s) ++ [(xs, (xf, xg, xb), xz)] by rw [hkeq.out, hq]; simp)
        go_wp2_with (first | (go_at_call 120; refine (session_any _ (xs, (xf, xg, xb), xz)).mono ?_; rintro e w1 ⟨rfl, hB1⟩; have hO1 := hOb.pure hB1; have hB2 := hBb.trans (hB1.mono hBb.size); have hB2s := hB2.size; have b1 := b0.pure hB1; have f0 : w1.cell? ⟨wr.heap.size, 0, none⟩ = some (.int .u64 xs) := b1.cell 0; have f1 : w1.cell? ⟨wr.heap.size, 1, none⟩ = some (.int .u32 xf) := b1.cell 1; have f2 : w1.cell? ⟨wr.heap.size, 2, none⟩ = some (.string xg) := b1.cell 2; have f3 : w1.cell? ⟨wr.heap.size, 3, none⟩ = some (.string xb) := b1.cell 3; have f4 : w1.cell? ⟨wr.heap.size, 4, none⟩ = some (.bool xz) := b1.cell 4) | (at_builtin; refine wpList_app1 rfl (.tmp 21) (.tmp 23) 23 57 rfl elem_asc ascEnc_len ascEnc_one u7 _ rfl (hO1.alloc _) w1.heap.size 1 (xs, (xf, xg, xb), xz) rfl (fun j u hu => ((Blk.new w1 (ascEnc (xs, (xf, xg, xb), xz)) 57).cell j).trans hu) (by omega) (by unfold maxLen; omega) (by simp; omega) ?_; intro g' cap' w4 hown hgr hfr))
        go_roundw
        case rel => exact ⟨k + 1, by omega, by go_num, by rw [hnew.out]; exact hown, (hB2.alloc hB2s _).grown hgr (by simp; omega) (fun j e => hO1.ge e)⟩
        case measure => simp [intOf]; omega
    · obtain rfl : k = L.length := by omega
      rw [List.take_length] at hO
      go_wp2
      go_ret
      exact ⟨_, rfl, hO, hB⟩
end Go.Proofs.Ytcelpincmpjhkaa
