/- Package assoc: set, Leave. Conditions: the row reads as associations; at most a million. (Texts joined; the heads of the others stand below.) -/
import Derived.Test.YtcelpincmpjhkaaAssocC
import Derived.Test.YtcelpincmpjhkaaGC

/- Package assoc: at, may, without. Conditions: the row reads as associations; at most a million. -/
namespace Go.Proofs.Ytcelpincmpjhkaa
set_option linter.unusedSimpArgs false
set_option linter.unusedVariables false
open Go.RowKit

set_option maxHeartbeats 800000 in
theorem at_any (w : World) (v : Value) (L : List Asc) (s : Int) (x : Xid) (hs : Slc ascEnc 5 w v L) (hr : Rises L) (hL : L.length ≤ 1000000) :
    Calls Try.prog 104 #[v, .int .u64 s, .agg #[.int .u32 x.1, .string x.2.1, .string x.2.2]] w (BinPost w L (s, x, false)) := by
  have hb := fun (w1 : World) (hB : Below w.heap.size w w1) => bin_any w1 v L (s, x, false) (hs.pure hB) hr hL
  have hb' := Lib.hid hb
  obtain ⟨a, n, cap, rfl⟩ := hs.shape3
  clear hb hr
  go_enter Try.func104, Try.ntmps104
  go_wp2_with (go_at_call 123; refine (hb'.out _ ?_).mono ?_; (first | exact (Below.refl _ _).alloc (Nat.le_refl _) _ | exact Below.refl _ _); rintro e w1 ⟨i, hi, rfl, hB1⟩)
  go_ret2
  exact ⟨i, hi, rfl, ((Below.refl _ _).alloc (Nat.le_refl _) _).trans (hB1.mono (by simp))⟩

/-- Why a call cannot be. -/
noncomputable def mayN (L : List Asc) (s : Int) (x : Xid) : Int := if rowE L ≠ 0 then 180 else if s = 0 then 2 else if XidOk x then 0 else 40
theorem rowE_cases (L : List Asc) : (RowA L ∧ rowE L = 0) ∨ (¬ RowA L ∧ rowE L = 180) := by
  rcases Classical.em (RowA L) with h | h
  · exact .inl ⟨h, rowE_yes h⟩
  · exact .inr ⟨h, rowE_no h⟩
theorem may_zero {L : List Asc} {s : Int} {x : Xid} (h : mayN L s x = 0) : RowA L ∧ s ≠ 0 ∧ XidOk x := by
  unfold mayN at h
  rcases rowE_cases L with ⟨h1, h2⟩ | ⟨h1, h2⟩
  · rw [h2, if_neg (by simp)] at h
    by_cases hs : s = 0
    · rw [if_pos hs] at h; omega
    · rw [if_neg hs] at h
      by_cases hx : XidOk x
      · exact ⟨h1, hs, hx⟩
      · rw [if_neg hx] at h; omega
  · rw [h2, if_pos (by simp)] at h; omega

set_option maxHeartbeats 800000 in
theorem may_any (w : World) (v : Value) (L : List Asc) (s : Int) (x : Xid) (hs : Slc ascEnc 5 w v L) (hL : L.length ≤ 1000000) :
    Calls Try.prog 103 #[v, .int .u64 s, .agg #[.int .u32 x.1, .string x.2.1, .string x.2.2]] w fun e w' => e = .returned (.int .i64 (mayN L s x)) ∧ Below w.heap.size w w' := by
  obtain ⟨xf, xg, xb⟩ := x
  simp only
  have hB0 := (Below.refl w.heap.size w).alloc (Nat.le_refl _) (.cells #[.int .u32 xf, .string xg, .string xb] 28)
  have b0 := Blk.new w [.int .u32 xf, .string xg, .string xb] 28
  have hc := check_any (w.alloc (.cells #[.int .u32 xf, .string xg, .string xb] 28)) v L (hs.pure hB0) hL
  unfold mayN
  rcases rowE_cases L with ⟨h1, h2⟩ | ⟨h1, h2⟩
  · rw [h2] at hc ⊢
    rw [if_neg (by simp)]
    by_cases hz : s = 0
    · rw [if_pos hz]
      have hzb : (s == 0) = true := by rw [hz]; rfl
      clear hz h2
      go_enter Try.func103, Try.ntmps103
      go_wp2_with (go_at_call 78; refine hc.mono ?_; clear hc; rintro e w1 ⟨rfl, hB1⟩)
      go_ret
      exact ⟨rfl, hB0.trans (hB1.mono (by simp))⟩
    · rw [if_neg hz]
      have hzb : (s == 0) = false := beq_eq_false_iff_ne.2 hz
      clear hz h2
      obtain ⟨cx, hcx⟩ : ∃ cx, (if XidOk (xf, xg, xb) then (0 : Int) else 40) = cx := ⟨_, rfl⟩
      rw [hcx]
      have hcx' := Lib.hid hcx; clear hcx
      go_enter Try.func103, Try.ntmps103
      go_wp2_with (first | (go_at_call 78; refine hc.mono ?_; clear hc; rintro e w1 ⟨rfl, hB1⟩; have b1 := b0.pure hB1; have c0 : w1.cell? ⟨w.heap.size, 0, none⟩ = some (.int .u32 xf) := b1.cell 0; have c1 : w1.cell? ⟨w.heap.size, 1, none⟩ = some (.string xg) := b1.cell 1; have c2 : w1.cell? ⟨w.heap.size, 2, none⟩ = some (.string xb) := b1.cell 2) | (go_at_call 99; refine (xid_chk _ (xf, xg, xb) _ hcx'.out).mono ?_; rintro e w2 ⟨rfl, hB2⟩))
      go_ret
      have hB3 := hB0.trans (hB1.mono (by simp))
      exact ⟨rfl, hB3.trans (hB2.mono hB3.size)⟩
  · rw [h2] at hc ⊢
    rw [if_pos (by simp)]
    clear h2
    go_enter Try.func103, Try.ntmps103
    go_wp2_with (go_at_call 78; refine hc.mono ?_; clear hc; rintro e w1 ⟨rfl, hB1⟩)
    go_ret
    exact ⟨rfl, hB0.trans (hB1.mono (by simp))⟩

theorem session_any (w : World) (a : Asc) :
    Calls Try.prog 120 #[.agg #[.int .u64 a.1, .int .u32 a.2.1.1, .string a.2.1.2.1, .string a.2.1.2.2, .bool a.2.2]] w fun e w' => e = .returned (.int .u64 a.1) ∧ Below w.heap.size w w' := by
  go_enter Try.func120, Try.ntmps120
  go_wp2
  go_ret
  exact ⟨rfl, (Below.refl _ _).alloc (Nat.le_refl _) _⟩
theorem name_any (w : World) (a : Asc) :
    Calls Try.prog 130 #[.agg #[.int .u64 a.1, .int .u32 a.2.1.1, .string a.2.1.2.1, .string a.2.1.2.2, .bool a.2.2]] w fun e w' => e = .returned (.agg #[.int .u32 a.2.1.1, .string a.2.1.2.1, .string a.2.1.2.2]) ∧ Below w.heap.size w w' := by
  go_enter Try.func130, Try.ntmps130
  go_wp2
  exact bodyPost_ret (v := .agg #[.int .u32 a.2.1.1, .string a.2.1.2.1, .string a.2.1.2.2]) (by simp [results, Try.results130, go_sem]) rfl ⟨rfl, ((Below.refl _ _).alloc (Nat.le_refl _) _).alloc (by simp) _⟩

theorem filter_snoc {p : Asc → Bool} {L : List Asc} {k : Nat} (h : k < L.length) : (L.take (k + 1)).filter p = (L.take k).filter p ++ (if p L[k] = true then [L[k]] else []) := by
  rw [List.take_succ_eq_append_getElem h, List.filter_append]; simp [List.filter_cons]

set_option maxRecDepth 100000 in
set_option maxHeartbeats 1600000 in
theorem without_ses (w : World) (v : Value) (L : List Asc) (s : Int) (hs : Slc ascEnc 5 w v L) (hL : L.length ≤ 1000000) :
    Calls Try.prog 119 #[v, .func (.func 120) #[] #[], .int .u64 s] w fun e w' => ∃ r, e = .returned r ∧ Own w.heap.size 57 5 ascEnc w' r (L.filter (fun a => a.1 != s)) ∧ Below w.heap.size w w' := by
  obtain ⟨a, cap, rfl, hm⟩ := hs.len
  unfold maxLen at hm
  go_enter Try.func119, Try.ntmps119
  go_wp2
  go_loopw [7, 12] (fun s7 s12 wr => ∃ k : Nat, k ≤ L.length ∧ s12 = .int .i64 k ∧ Own w.heap.size 57 5 ascEnc wr s7 ((L.take k).filter (fun a => a.1 != s)) ∧ Below w.heap.size w wr) (fun _ s12 _ => L.length - (intOf s12).toNat)
  case atStart => exact ⟨0, by omega, rfl, Own.nil, Below.refl _ _⟩
  case round =>
    obtain ⟨k, hk, rfl, hO, hB⟩ := hrel
    have hBs := hB.size
    by_cases hlt : k < L.length
    · have hsr := hs.pure hB
      obtain ⟨g, off, rfl⟩ := hsr.addr hlt
      obtain ⟨c0, c1, c2, c3, c4⟩ := asc_cells hsr hlt
      have hll : ((L.take k).filter (fun a => a.1 != s)).length ≤ k := Nat.le_trans (List.length_filter_le _ _) (by rw [List.length_take]; omega)
      have hkeq := Lib.hid (filter_snoc (p := fun a => a.1 != s) hlt)
      obtain ⟨x, hx⟩ : ∃ x, x = L[k] := ⟨_, rfl⟩
      rw [← hx] at c0 c1 c2 c3 c4 hkeq
      clear hx
      obtain ⟨xs, ⟨xf, xg, xb⟩, xz⟩ := x
      simp only at c0 c1 c2 c3 c4 hkeq
      have b0 := Blk.new wr (ascEnc (xs, (xf, xg, xb), xz)) 57
      have hBb := hB.alloc hBs (.cells (ascEnc (xs, (xf, xg, xb), xz)).toArray 57)
      have hOb := hO.alloc (.cells (ascEnc (xs, (xf, xg, xb), xz)).toArray 57)
      cases hq : (xs != s)
      · have hnew := Lib.hid (show (L.take (k + 1)).filter (fun a => a.1 != s) = (L.take k).filter (fun a => a.1 != s) by rw [hkeq.out, hq]; simp)
        go_wp2_with (go_at_call 120; refine (session_any _ (xs, (xf, xg, xb), xz)).mono ?_; rintro e w1 ⟨rfl, hB1⟩; have hO1 := hOb.pure hB1; have hB2 := hBb.trans (hB1.mono hBb.size))
        go_roundw
        case rel => exact ⟨k + 1, by omega, by go_num, by rw [hnew.out]; exact hO1, hB2⟩
        case measure => simp [intOf]; omega
      · have hnew := Lib.hid (show (L.take (k + 1)).filter (fun a => a.1 != s) = (L.take k).filter (fun a => a.1 != s) ++ [(xs, (xf, xg, xb), xz)] by rw [hkeq.out, hq]; simp)
        go_wp2_with (first | (go_at_call 120; refine (session_any _ (xs, (xf, xg, xb), xz)).mono ?_; rintro e w1 ⟨rfl, hB1⟩; have hO1 := hOb.pure hB1; have hB2 := hBb.trans (hB1.mono hBb.size); have hB2s := hB2.size; have b1 := b0.pure hB1; have f0 : w1.cell? ⟨wr.heap.size, 0, none⟩ = some (.int .u64 xs) := b1.cell 0; have f1 : w1.cell? ⟨wr.heap.size, 1, none⟩ = some (.int .u32 xf) := b1.cell 1; have f2 : w1.cell? ⟨wr.heap.size, 2, none⟩ = some (.string xg) := b1.cell 2; have f3 : w1.cell? ⟨wr.heap.size, 3, none⟩ = some (.string xb) := b1.cell 3; have f4 : w1.cell? ⟨wr.heap.size, 4, none⟩ = some (.bool xz) := b1.cell 4) | (at_builtin; refine wpList_app1 rfl (.tmp 21) (.tmp 23) 23 57 rfl elem_asc ascEnc_len ascEnc_one u7 _ rfl (hO1.alloc _) w1.heap.size 1 (xs, (xf, xg, xb), xz) rfl (fun j u hu => ((Blk.new w1 (ascEnc (xs, (xf, xg, xb), xz)) 57).cell j).trans hu) (by omega) (by unfold maxLen; omega) (by simp; omega) ?_; intro g' cap' w4 hown hgr hfr))
        go_roundw
        case rel => exact ⟨k + 1, by omega, by go_num, by rw [hnew.out]; exact hown, (hB2.alloc hB2s _).grown hgr (by simp; omega) (fun j e => hO1.ge e)⟩
        case measure => simp [intOf]; omega
    · obtain rfl : k = L.length := by omega
      rw [List.take_length] at hO
      go_wp2
      go_ret
      exact ⟨_, rfl, hO, hB⟩
end Go.Proofs.Ytcelpincmpjhkaa

/- Package assoc: without by name; comparisons of structs. -/
namespace Go.Proofs.Ytcelpincmpjhkaa
set_option linter.unusedSimpArgs false
set_option linter.unusedVariables false
open Go.RowKit

theorem bytes_beq (a b : ByteArray) : (a.toList == b.toList) = (a == b) := (beq_toListBytes a b).symm

set_option maxRecDepth 100000 in
set_option maxHeartbeats 800000 in
theorem xid_eql (w : World) (xf yf : Int) (xg xb yg yb : ByteArray) : (binOp .eql 28 (.agg #[.int .u32 xf, .string xg, .string xb]) (.agg #[.int .u32 yf, .string yg, .string yb])).run Try.prog w = .ok (.bool (xf == yf && (xg == yg && xb == yb))) w := by
  have hf : Try.prog.fieldsOf 28 = (match Try.prog.underlying 28 with | some (.struct fs) => fs | _ => #[]) := rfl
  rw [Try.underlying28] at hf
  simp only at hf
  rw [run_eql_struct, show (10000 : Nat) = 9999 + 1 from rfl, run_equalIn_agg w 9999 _ _ _ (by rw [hf]; exact Try.underlying28) (by kernel_rfl), hf]
  cases h1 : (xf == yf) <;> cases h2 : (xg == yg) <;> cases h3 : (xb == yb) <;> simp [go_sem, bytes_beq, h1, h2, h3]

set_option maxRecDepth 100000 in
set_option maxHeartbeats 800000 in
theorem xid_neq (w : World) (xf yf : Int) (xg xb yg yb : ByteArray) : (binOp .neq 28 (.agg #[.int .u32 xf, .string xg, .string xb]) (.agg #[.int .u32 yf, .string yg, .string yb])).run Try.prog w = .ok (.bool ((xf, xg, xb) != (yf, yg, yb))) w := by
  have hf : Try.prog.fieldsOf 28 = (match Try.prog.underlying 28 with | some (.struct fs) => fs | _ => #[]) := rfl
  rw [Try.underlying28] at hf
  simp only at hf
  rw [run_neq_struct, show (10000 : Nat) = 9999 + 1 from rfl, run_equalIn_agg w 9999 _ _ _ (by rw [hf]; exact Try.underlying28) (by kernel_rfl), hf]
  have hh : ((xf, xg, xb) != (yf, yg, yb)) = !(xf == yf && (xg == yg && xb == yb)) := rfl
  rw [hh]
  cases h1 : (xf == yf) <;> cases h2 : (xg == yg) <;> cases h3 : (xb == yb) <;> simp [go_sem, bytes_beq, h1, h2, h3]

set_option maxRecDepth 100000 in
set_option maxHeartbeats 800000 in
theorem asc_eql (w : World) (s r : Int) (xf yf : Int) (xg xb yg yb : ByteArray) (p q : Bool) : (binOp .eql 57 (.agg #[.int .u64 s, .int .u32 xf, .string xg, .string xb, .bool p]) (.agg #[.int .u64 r, .int .u32 yf, .string yg, .string yb, .bool q])).run Try.prog w = .ok (.bool (s == r && ((xf == yf && (xg == yg && xb == yb)) && p == q))) w := by
  have hf : Try.prog.fieldsOf 57 = (match Try.prog.underlying 57 with | some (.struct fs) => fs | _ => #[]) := rfl
  rw [Try.underlying57] at hf
  simp only at hf
  have hf2 : Try.prog.fieldsOf 28 = (match Try.prog.underlying 28 with | some (.struct fs) => fs | _ => #[]) := rfl
  rw [Try.underlying28] at hf2
  simp only at hf2
  rw [run_eql_struct, show (10000 : Nat) = 9999 + 1 from rfl, run_equalIn_agg w 9999 _ _ _ (by rw [hf]; exact Try.underlying57) (by kernel_rfl), hf]
  cases h0 : (s == r) <;> cases h1 : (xf == yf) <;> cases h2 : (xg == yg) <;> cases h3 : (xb == yb) <;> cases p <;> cases q <;> simp [go_sem, bytes_beq, h0, h1, h2, h3]
theorem asc_len_le (p : Asc → Bool) (L : List Asc) (k : Nat) : ((L.take k).filter p).length ≤ k := Nat.le_trans (List.length_filter_le _ _) (by rw [List.length_take]; omega)

set_option maxRecDepth 100000 in
set_option maxHeartbeats 1600000 in
theorem without_xid (w : World) (v : Value) (L : List Asc) (y : Xid) (hs : Slc ascEnc 5 w v L) (hL : L.length ≤ 1000000) :
    Calls Try.prog 129 #[v, .func (.func 130) #[] #[], .agg #[.int .u32 y.1, .string y.2.1, .string y.2.2]] w fun e w' => ∃ r, e = .returned r ∧ Own w.heap.size 57 5 ascEnc w' r (L.filter (fun a => a.2.1 != y)) ∧ Below w.heap.size w w' := by
  obtain ⟨yf, yg, yb⟩ := y
  simp only
  obtain ⟨a, cap, rfl, hm⟩ := hs.len
  unfold maxLen at hm
  have hB0 := (Below.refl w.heap.size w).alloc (Nat.le_refl _) (.cells #[.int .u32 yf, .string yg, .string yb] 28)
  have by0 := Blk.new w [.int .u32 yf, .string yg, .string yb] 28
  go_enter Try.func129, Try.ntmps129
  go_wp2
  go_loopw [7, 12] (fun s7 s12 wr => ∃ k : Nat, k ≤ L.length ∧ s12 = .int .i64 k ∧ Own (w.heap.size + 1) 57 5 ascEnc wr s7 ((L.take k).filter (fun a => a.2.1 != (yf, yg, yb))) ∧ Below (w.heap.size + 1) (w.alloc (.cells #[.int .u32 yf, .string yg, .string yb] 28)) wr) (fun _ s12 _ => L.length - (intOf s12).toNat)
  case atStart => exact ⟨0, by omega, rfl, Own.nil, Below.refl _ _⟩
  case round =>
    obtain ⟨k, hk, rfl, hO, hB⟩ := hrel
    have hBs : w.heap.size + 1 ≤ wr.heap.size := by have := hB.size; simpa using this
    by_cases hlt : k < L.length
    · have hsr := (hs.pure hB0).pure (hB.mono (by simp))
      obtain ⟨g, off, rfl⟩ := hsr.addr hlt
      obtain ⟨c0, c1, c2, c3, c4⟩ := asc_cells hsr hlt
      have hll := asc_len_le (fun a => a.2.1 != (yf, yg, yb)) L k
      have hkeq := Lib.hid (filter_snoc (p := (fun a => a.2.1 != (yf, yg, yb))) hlt)
      obtain ⟨x, hx⟩ : ∃ x, x = L[k] := ⟨_, rfl⟩
      rw [← hx] at c0 c1 c2 c3 c4 hkeq
      clear hx
      obtain ⟨xs, ⟨xf, xg, xb⟩, xz⟩ := x
      simp only at c0 c1 c2 c3 c4 hkeq
      have b0 := Blk.new wr [.int .u64 xs, .int .u32 xf, .string xg, .string xb, .bool xz] 57
      have byr := by0.below hB (by omega)
      have byb := byr.alloc (.cells #[.int .u64 xs, .int .u32 xf, .string xg, .string xb, .bool xz] 57)
      have hBb := hB.alloc hBs (.cells #[.int .u64 xs, .int .u32 xf, .string xg, .string xb, .bool xz] 57)
      have hOb := hO.alloc (.cells #[.int .u64 xs, .int .u32 xf, .string xg, .string xb, .bool xz] 57)
      have hBbs : w.heap.size + 1 ≤ (wr.alloc (.cells #[.int .u64 xs, .int .u32 xf, .string xg, .string xb, .bool xz] 57)).drew.heap.size := by show _ ≤ (wr.alloc (.cells #[.int .u64 xs, .int .u32 xf, .string xg, .string xb, .bool xz] 57)).heap.size; simp; omega
      have e0 : (wr.alloc (.cells #[.int .u64 xs, .int .u32 xf, .string xg, .string xb, .bool xz] 57)).cell? ⟨w.heap.size, 0, none⟩ = some (.int .u32 yf) := byb.cell 0
      have e1 : (wr.alloc (.cells #[.int .u64 xs, .int .u32 xf, .string xg, .string xb, .bool xz] 57)).cell? ⟨w.heap.size, 1, none⟩ = some (.string yg) := byb.cell 1
      have e2 : (wr.alloc (.cells #[.int .u64 xs, .int .u32 xf, .string xg, .string xb, .bool xz] 57)).cell? ⟨w.heap.size, 2, none⟩ = some (.string yb) := byb.cell 2
      have f0 : (wr.alloc (.cells #[.int .u64 xs, .int .u32 xf, .string xg, .string xb, .bool xz] 57)).cell? ⟨wr.heap.size, 0, none⟩ = some (.int .u64 xs) := b0.cell 0
      have f1 : (wr.alloc (.cells #[.int .u64 xs, .int .u32 xf, .string xg, .string xb, .bool xz] 57)).cell? ⟨wr.heap.size, 1, none⟩ = some (.int .u32 xf) := b0.cell 1
      have f2 : (wr.alloc (.cells #[.int .u64 xs, .int .u32 xf, .string xg, .string xb, .bool xz] 57)).cell? ⟨wr.heap.size, 2, none⟩ = some (.string xg) := b0.cell 2
      have f3 : (wr.alloc (.cells #[.int .u64 xs, .int .u32 xf, .string xg, .string xb, .bool xz] 57)).cell? ⟨wr.heap.size, 3, none⟩ = some (.string xb) := b0.cell 3
      have f4 : (wr.alloc (.cells #[.int .u64 xs, .int .u32 xf, .string xg, .string xb, .bool xz] 57)).cell? ⟨wr.heap.size, 4, none⟩ = some (.bool xz) := b0.cell 4
      have hqe := fun (u : World) => xid_eql u xf yf xg xb yg yb
      have hqn : ∀ u : World, (binOp .neq 28 (.agg #[.int .u32 xf, .string xg, .string xb]) (.agg #[.int .u32 yf, .string yg, .string yb])).run Try.prog u = .ok (.bool ((xf, xg, xb) != (yf, yg, yb))) u := fun u => xid_neq u xf yf xg xb yg yb
      clear hqe
      cases hq : ((xf, xg, xb) != (yf, yg, yb))
      · have hnew := Lib.hid (show (L.take (k + 1)).filter (fun a => a.2.1 != (yf, yg, yb)) = (L.take k).filter (fun a => a.2.1 != (yf, yg, yb)) by rw [hkeq.out]; simp only [hq]; simp)
        rw [hq] at hqn
        have hq' := Lib.hid hq; clear hq
        go_wp2
        go_region_held3 (fun w' => w'.cell? ⟨w.heap.size, 0, none⟩ = some (.int .u32 yf) ∧ w'.cell? ⟨w.heap.size, 1, none⟩ = some (.string yg) ∧ w'.cell? ⟨w.heap.size, 2, none⟩ = some (.string yb) ∧ w'.cell? ⟨wr.heap.size, 0, none⟩ = some (.int .u64 xs) ∧ w'.cell? ⟨wr.heap.size, 1, none⟩ = some (.int .u32 xf) ∧ w'.cell? ⟨wr.heap.size, 2, none⟩ = some (.string xg) ∧ w'.cell? ⟨wr.heap.size, 3, none⟩ = some (.string xb) ∧ w'.cell? ⟨wr.heap.size, 4, none⟩ = some (.bool xz)) (first | exact ⟨e0, e1, e2, f0, f1, f2, f3, f4⟩ | exact ⟨d0, d1, d2, g0, g1, g2, g3, g4⟩) (first | (go_at_call 130; refine (name_any _ (xs, (xf, xg, xb), xz)).mono ?_; rintro e w1 ⟨rfl, hB1⟩; have hO1 := hOb.drew.pure hB1; have hB2 := (below_dr hBb).trans (hB1.mono hBbs); have hB2s := Nat.le_trans hBbs hB1.size; have by1 := byb.drew.pure hB1; have b1 := b0.drew.pure hB1; have d0 : w1.cell? ⟨w.heap.size, 0, none⟩ = some (.int .u32 yf) := by1.cell 0; have d1 : w1.cell? ⟨w.heap.size, 1, none⟩ = some (.string yg) := by1.cell 1; have d2 : w1.cell? ⟨w.heap.size, 2, none⟩ = some (.string yb) := by1.cell 2; have g0 : w1.cell? ⟨wr.heap.size, 0, none⟩ = some (.int .u64 xs) := b1.cell 0; have g1 : w1.cell? ⟨wr.heap.size, 1, none⟩ = some (.int .u32 xf) := b1.cell 1; have g2 : w1.cell? ⟨wr.heap.size, 2, none⟩ = some (.string xg) := b1.cell 2; have g3 : w1.cell? ⟨wr.heap.size, 3, none⟩ = some (.string xb) := b1.cell 3; have g4 : w1.cell? ⟨wr.heap.size, 4, none⟩ = some (.bool xz) := b1.cell 4; clear e0 e1 e2 f0 f1 f2 f3 f4))
        go_wp2
        go_roundw
        case rel => exact ⟨k + 1, by omega, by go_num, by rw [hnew.out]; exact hO1, hB2⟩
        case measure => simp [intOf]; omega
      · have hnew := Lib.hid (show (L.take (k + 1)).filter (fun a => a.2.1 != (yf, yg, yb)) = (L.take k).filter (fun a => a.2.1 != (yf, yg, yb)) ++ [(xs, (xf, xg, xb), xz)] by rw [hkeq.out]; simp only [hq]; simp)
        rw [hq] at hqn
        have hq' := Lib.hid hq; clear hq
        go_wp2
        go_region_held3 (fun w' => w'.cell? ⟨w.heap.size, 0, none⟩ = some (.int .u32 yf) ∧ w'.cell? ⟨w.heap.size, 1, none⟩ = some (.string yg) ∧ w'.cell? ⟨w.heap.size, 2, none⟩ = some (.string yb) ∧ w'.cell? ⟨wr.heap.size, 0, none⟩ = some (.int .u64 xs) ∧ w'.cell? ⟨wr.heap.size, 1, none⟩ = some (.int .u32 xf) ∧ w'.cell? ⟨wr.heap.size, 2, none⟩ = some (.string xg) ∧ w'.cell? ⟨wr.heap.size, 3, none⟩ = some (.string xb) ∧ w'.cell? ⟨wr.heap.size, 4, none⟩ = some (.bool xz)) (first | exact ⟨e0, e1, e2, f0, f1, f2, f3, f4⟩ | exact ⟨d0, d1, d2, g0, g1, g2, g3, g4⟩) (first | (go_at_call 130; refine (name_any _ (xs, (xf, xg, xb), xz)).mono ?_; rintro e w1 ⟨rfl, hB1⟩; have hO1 := hOb.drew.pure hB1; have hB2 := (below_dr hBb).trans (hB1.mono hBbs); have hB2s := Nat.le_trans hBbs hB1.size; have by1 := byb.drew.pure hB1; have b1 := b0.drew.pure hB1; have d0 : w1.cell? ⟨w.heap.size, 0, none⟩ = some (.int .u32 yf) := by1.cell 0; have d1 : w1.cell? ⟨w.heap.size, 1, none⟩ = some (.string yg) := by1.cell 1; have d2 : w1.cell? ⟨w.heap.size, 2, none⟩ = some (.string yb) := by1.cell 2; have g0 : w1.cell? ⟨wr.heap.size, 0, none⟩ = some (.int .u64 xs) := b1.cell 0; have g1 : w1.cell? ⟨wr.heap.size, 1, none⟩ = some (.int .u32 xf) := b1.cell 1; have g2 : w1.cell? ⟨wr.heap.size, 2, none⟩ = some (.string xg) := b1.cell 2; have g3 : w1.cell? ⟨wr.heap.size, 3, none⟩ = some (.string xb) := b1.cell 3; have g4 : w1.cell? ⟨wr.heap.size, 4, none⟩ = some (.bool xz) := b1.cell 4; clear e0 e1 e2 f0 f1 f2 f3 f4))
        go_wp2_with (at_builtin; refine wpList_app1 rfl (.tmp 21) (.tmp 23) 23 57 rfl elem_asc ascEnc_len ascEnc_one u7 _ rfl (hO1.alloc _) w1.heap.size 1 (xs, (xf, xg, xb), xz) rfl (fun j u hu => ((Blk.new w1 (ascEnc (xs, (xf, xg, xb), xz)) 57).cell j).trans hu) (by omega) (by unfold maxLen; omega) (by simp; omega) ?_; intro g' cap' w4 hown hgr hfr)
        go_roundw
        case rel => exact ⟨k + 1, by omega, by go_num, by rw [hnew.out]; exact hown, (hB2.alloc hB2s _).grown hgr (by simp; omega) (fun j e => hO1.ge e)⟩
        case measure => simp [intOf]; omega
    · obtain rfl : k = L.length := by omega
      rw [List.take_length] at hO
      go_wp2
      go_ret
      exact ⟨_, rfl, hO.rebase (fun j hj => by have := hO.ge hj; omega), hB0.trans (hB.mono (by omega))⟩
end Go.Proofs.Ytcelpincmpjhkaa

/- Package assoc: Active. Conditions: the row reads as associations; at most a million. -/
namespace Go.Proofs.Ytcelpincmpjhkaa
set_option linter.unusedSimpArgs false
set_option linter.unusedVariables false
open Go.RowKit

def noX : Xid := (0, ⟨#[]⟩, ⟨#[]⟩)
/-- A session's active association. -/
noncomputable def actA (L : List Asc) (s : Int) : Option Xid := if rowE L = 0 then (L.find? (fun a => a.1 == s && !a.2.2)).map (fun a => a.2.1) else none
def optX (o : Option Xid) : Xid := o.getD noX
theorem actA_bad {L : List Asc} (h : rowE L ≠ 0) (s : Int) : actA L s = none := by unfold actA; rw [if_neg h]
theorem find_none_take {p : Asc → Bool} {L : List Asc} {k : Nat} (h : k < L.length) (hn : ∀ a ∈ L.take k, p a = false) (hp : p L[k] = false) : ∀ a ∈ L.take (k + 1), p a = false := by
  rw [List.take_succ_eq_append_getElem h]
  intro a ha
  rcases List.mem_append.1 ha with h1 | h1
  · exact hn a h1
  · rw [List.mem_singleton.1 h1]; exact hp
theorem find_at {p : Asc → Bool} {L : List Asc} {k : Nat} (h : k < L.length) (hn : ∀ a ∈ L.take k, p a = false) (hp : p L[k] = true) : L.find? p = some L[k] := by
  have e : L = L.take k ++ L[k] :: L.drop (k + 1) := by rw [← List.drop_eq_getElem_cons h, List.take_append_drop]
  have : (L.take k ++ L[k] :: L.drop (k + 1)).find? p = some L[k] := by
    rw [List.find?_append, List.find?_eq_none.2 (fun a ha => by simp [hn a ha]), List.find?_cons_of_pos hp]; rfl
  rw [← e] at this; exact this

theorem below_set {B : Nat} {w w1 : World} {b : Nat} (h : Below B w w1) (hb : B ≤ b) (j : Nat) (v : Value) : Below B w (w1.setCell ⟨b, j, none⟩ v) := Below.setCell h hb v
theorem bytes_self (a : ByteArray) : (a == a) = true := by rw [beq_toListBytes]; simp

set_option maxRecDepth 100000 in
set_option maxHeartbeats 1600000 in
theorem active_any (w : World) (v : Value) (L : List Asc) (s : Int) (hs : Slc ascEnc 5 w v L) (hL : L.length ≤ 1000000) :
    Calls Try.prog 49 #[v, .int .u64 s] w fun e w' => e = .returned (.tuple #[.agg #[.int .u32 (optX (actA L s)).1, .string (optX (actA L s)).2.1, .string (optX (actA L s)).2.2], .bool (actA L s).isSome]) ∧ Below w.heap.size w w' := by
  obtain ⟨a, cap, rfl, hm⟩ := hs.len
  unfold maxLen at hm
  have hB0 := (Below.refl w.heap.size w).alloc (Nat.le_refl _) (.cells #[.int .u32 0, .string ⟨#[]⟩, .string ⟨#[]⟩] 28)
  have b0 := Blk.new w [.int .u32 0, .string ⟨#[]⟩, .string ⟨#[]⟩] 28
  have hc := check_any (w.alloc (.cells #[.int .u32 0, .string ⟨#[]⟩, .string ⟨#[]⟩] 28)) _ L (hs.pure hB0) hL
  obtain ⟨r, hr⟩ : ∃ r, r = rowE L := ⟨_, rfl⟩
  rw [← hr] at hc
  by_cases hz : r = 0
  · have hrz := Lib.hid (show rowE L = 0 by rw [← hr]; exact hz)
    have hzb : (r != 0) = false := by rw [hz]; rfl
    clear hz hr
    go_enter Try.func49, Try.ntmps49
    go_wp2_with (go_at_call 78; refine hc.mono ?_; clear hc; rintro e w1 ⟨rfl, hB1⟩; have b1 := b0.pure hB1; have c0 : w1.cell? ⟨w.heap.size, 0, none⟩ = some (.int .u32 0) := b1.cell 0; have z0 := b1.frozen 0; have c1 : w1.cell? ⟨w.heap.size, 1, none⟩ = some (.string ⟨#[]⟩) := b1.cell 1; have z1 := b1.frozen 1; have c2 : w1.cell? ⟨w.heap.size, 2, none⟩ = some (.string ⟨#[]⟩) := b1.cell 2; have z2 := b1.frozen 2)
    have hB1t := hB0.trans (hB1.mono (by simp))
    have hB1s : w.heap.size + 1 ≤ w1.heap.size := by have := hB1.size; simpa using this
    go_loopw [14] (fun s14 wr => ∃ k : Nat, k ≤ L.length ∧ s14 = .int .i64 k ∧ (∀ a ∈ L.take k, (a.1 == s && !a.2.2) = false) ∧ Below w1.heap.size w1 wr) (fun s14 _ => L.length - (intOf s14).toNat)
    case atStart => exact ⟨0, by omega, rfl, by simp, Below.refl _ _⟩
    case round =>
      obtain ⟨k, hk, rfl, hN, hB⟩ := hrel
      have hN' := Lib.hid hN; clear hN
      have hBs := hB.size
      clear c0 c1 c2 z0 z1 z2
      have b2 := b1.pure hB
      by_cases hlt : k < L.length
      · have hsr := (hs.pure hB1t).pure hB
        obtain ⟨g, off, rfl⟩ := hsr.addr hlt
        obtain ⟨c0, c1, c2, c3, c4⟩ := asc_cells hsr hlt
        have hfa := Lib.hid (fun hp => find_at (p := fun a => a.1 == s && !a.2.2) hlt hN'.out hp)
        have hfn := Lib.hid (fun hp => find_none_take (p := fun a => a.1 == s && !a.2.2) hlt hN'.out hp)
        obtain ⟨x, hx⟩ : ∃ x, x = L[k] := ⟨_, rfl⟩
        rw [← hx] at c0 c1 c2 c3 c4 hfa hfn
        clear hx
        obtain ⟨xs, ⟨xf, xg, xb⟩, xz⟩ := x
        simp only at c0 c1 c2 c3 c4 hfa hfn
        have b3 := b2.alloc (.cells #[.int .u64 xs, .int .u32 xf, .string xg, .string xb, .bool xz] 57)
        have b4 := Blk.new wr [.int .u64 xs, .int .u32 xf, .string xg, .string xb, .bool xz] 57
        have hBb := hB.alloc hBs (.cells #[.int .u64 xs, .int .u32 xf, .string xg, .string xb, .bool xz] 57)
        have z0 := b3.frozen 0; have d0 : (wr.alloc (.cells #[.int .u64 xs, .int .u32 xf, .string xg, .string xb, .bool xz] 57)).cell? ⟨w.heap.size, 0, none⟩ = some (.int .u32 0) := b3.cell 0
        have z1 := b3.frozen 1; have d1 : (wr.alloc (.cells #[.int .u64 xs, .int .u32 xf, .string xg, .string xb, .bool xz] 57)).cell? ⟨w.heap.size, 1, none⟩ = some (.string ⟨#[]⟩) := b3.cell 1
        have z2 := b3.frozen 2; have d2 : (wr.alloc (.cells #[.int .u64 xs, .int .u32 xf, .string xg, .string xb, .bool xz] 57)).cell? ⟨w.heap.size, 2, none⟩ = some (.string ⟨#[]⟩) := b3.cell 2
        cases hq : (xs == s && !xz)
        · have hN2 := Lib.hid (hfn.out hq)
          have hqe : ∀ u : World, (binOp .eql 57 (.agg #[.int .u64 xs, .int .u32 xf, .string xg, .string xb, .bool xz]) (.agg #[.int .u64 s, .int .u32 xf, .string xg, .string xb, .bool false])).run Try.prog u = .ok (.bool false) u := fun u => by
            rw [asc_eql]; revert hq; cases (xs == s) <;> cases xz <;> simp [bytes_self]
          clear hq
          go_wp2
          go_roundw
          case rel => exact ⟨k + 1, by omega, by go_num, hN2.out, hBb⟩
          case measure => simp [intOf]; omega
        · have hF := Lib.hid (hfa.out hq)
          have hqe : ∀ u : World, (binOp .eql 57 (.agg #[.int .u64 xs, .int .u32 xf, .string xg, .string xb, .bool xz]) (.agg #[.int .u64 s, .int .u32 xf, .string xg, .string xb, .bool false])).run Try.prog u = .ok (.bool true) u := fun u => by
            rw [asc_eql]; revert hq; cases (xs == s) <;> cases xz <;> simp [bytes_self]
          clear hq
          go_wp2
          have hA : actA L s = some (xf, xg, xb) := by unfold actA; rw [if_pos hrz.out, hF.out]; rfl
          have b5 := ((b3.set 0 (.int .u32 xf)).set 1 (.string xg)).set 2 (.string xb)
          have y0 := b5.cell 0; have y1 := b5.cell 1; have y2 := b5.cell 2
          simp only [List.set, List.getElem?_cons_zero, List.getElem?_cons_succ] at y0 y1 y2
          rw [hA]
          refine bodyPost_ret (v := .tuple #[.agg #[.int .u32 xf, .string xg, .string xb], .bool true]) (by simp [results, Try.results49, go_sem, y0, y1, y2]) rfl ⟨rfl, ?_⟩
          exact below_set (below_set (below_set (hB1t.trans (hBb.mono hB1t.size)) (Nat.le_refl _) _ _) (Nat.le_refl _) _ _) (Nat.le_refl _) _ _
      · obtain rfl : k = L.length := by omega
        have hN2 := hN'.out
        rw [List.take_length] at hN2
        have hA : actA L s = none := by unfold actA; rw [if_pos hrz.out, List.find?_eq_none.2 (fun a ha => by simpa using hN2 a ha)]; rfl
        have hA' := Lib.hid hA
        clear hN2 hA
        have z0 := b2.frozen 0; have d0 : wr.cell? ⟨w.heap.size, 0, none⟩ = some (.int .u32 0) := b2.cell 0
        have z1 := b2.frozen 1; have d1 : wr.cell? ⟨w.heap.size, 1, none⟩ = some (.string ⟨#[]⟩) := b2.cell 1
        have z2 := b2.frozen 2; have d2 : wr.cell? ⟨w.heap.size, 2, none⟩ = some (.string ⟨#[]⟩) := b2.cell 2
        go_wp2
        have b5 := ((b2.set 0 (.int .u32 0)).set 1 (.string ⟨#[]⟩)).set 2 (.string ⟨#[]⟩)
        have y0 := b5.cell 0; have y1 := b5.cell 1; have y2 := b5.cell 2
        simp only [List.set, List.getElem?_cons_zero, List.getElem?_cons_succ] at y0 y1 y2
        rw [hA'.out]
        refine bodyPost_ret (v := .tuple #[.agg #[.int .u32 0, .string ⟨#[]⟩, .string ⟨#[]⟩], .bool false]) (by simp [results, Try.results49, go_sem, y0, y1, y2]) rfl ⟨rfl, ?_⟩
        exact below_set (below_set (below_set (hB1t.trans (hB.mono hB1t.size)) (Nat.le_refl _) _ _) (Nat.le_refl _) _ _) (Nat.le_refl _) _ _
  · have hn := Lib.hid (actA_bad (L := L) (by rw [← hr]; exact hz) s)
    have hzb : (r != 0) = true := bne_iff_ne.2 hz
    clear hz hr
    go_enter Try.func49, Try.ntmps49
    go_wp2_with (go_at_call 78; refine hc.mono ?_; clear hc; rintro e w1 ⟨rfl, hB1⟩; have b1 := b0.pure hB1; have c0 : w1.cell? ⟨w.heap.size, 0, none⟩ = some (.int .u32 0) := b1.cell 0; have z0 := b1.frozen 0; have c1 : w1.cell? ⟨w.heap.size, 1, none⟩ = some (.string ⟨#[]⟩) := b1.cell 1; have z1 := b1.frozen 1; have c2 : w1.cell? ⟨w.heap.size, 2, none⟩ = some (.string ⟨#[]⟩) := b1.cell 2; have z2 := b1.frozen 2)
    have hB1t := hB0.trans (hB1.mono (by simp))
    have b5 := ((b1.set 0 (.int .u32 0)).set 1 (.string ⟨#[]⟩)).set 2 (.string ⟨#[]⟩)
    have y0 := b5.cell 0; have y1 := b5.cell 1; have y2 := b5.cell 2
    simp only [List.set, List.getElem?_cons_zero, List.getElem?_cons_succ] at y0 y1 y2
    rw [hn.out]
    refine bodyPost_ret (v := .tuple #[.agg #[.int .u32 0, .string ⟨#[]⟩, .string ⟨#[]⟩], .bool false]) (by simp [results, Try.results49, go_sem, y0, y1, y2]) rfl ⟨rfl, ?_⟩
    exact below_set (below_set (below_set hB1t (Nat.le_refl _) _ _) (Nat.le_refl _) _ _) (Nat.le_refl _) _ _
end Go.Proofs.Ytcelpincmpjhkaa

/- Package assoc: at in a right row, Has, Count. Conditions: the row reads as associations; at most a million. -/
namespace Go.Proofs.Ytcelpincmpjhkaa
set_option linter.unusedSimpArgs false
set_option linter.unusedVariables false
open Go.RowKit

theorem place_at {L : List Asc} {s : Int} {x : Xid} {i k : Nat} (hr : Rises L) (hp : PlaceA L (s, x, false) i) (hk : k < L.length) (he : keyA L[k] = (s, x)) : k = i := by
  obtain ⟨h0, h1, h2⟩ := hp
  have hz : cmpA L[k] (s, x, false) = 0 := cmpA_zero.2 he
  rcases Nat.lt_trichotomy k i with h | h | h
  · have := h1 k hk h; omega
  · exact h
  · have h3 : cmpA (L[i]'(by omega)) L[k] < 0 := List.pairwise_iff_getElem.1 hr i k (by omega) hk h
    have h4 := cmpA_lt_le h3 (Int.le_of_eq hz)
    have h5 := h2 i (by omega) (Nat.le_refl _)
    omega
def Mem (L : List Asc) (s : Int) (x : Xid) : Prop := ∃ k, ∃ h : k < L.length, keyA L[k] = (s, x)

theorem at_no (w : World) (v : Value) (L : List Asc) (s : Int) (x : Xid) (hs : Slc ascEnc 5 w v L) (hr : Rises L) (hL : L.length ≤ 1000000) (hn : ¬ Mem L s x) :
    Calls Try.prog 104 #[v, .int .u64 s, .agg #[.int .u32 x.1, .string x.2.1, .string x.2.2]] w fun e w' => ∃ i : Nat, PlaceA L (s, x, false) i ∧ e = .returned (.tuple #[.int .i64 i, .bool false]) ∧ Below w.heap.size w w' := by
  refine (at_any w v L s x hs hr hL).mono ?_
  rintro e w' ⟨i, hi, rfl, hB⟩
  refine ⟨i, hi, ?_, hB⟩
  rw [decide_eq_false]
  rintro ⟨h, hz⟩
  exact hn ⟨i, h, cmpA_zero.1 hz⟩
theorem at_yes (w : World) (v : Value) (L : List Asc) (s : Int) (x : Xid) (k : Nat) (hs : Slc ascEnc 5 w v L) (hr : Rises L) (hL : L.length ≤ 1000000) (hk : k < L.length) (he : keyA L[k] = (s, x)) :
    Calls Try.prog 104 #[v, .int .u64 s, .agg #[.int .u32 x.1, .string x.2.1, .string x.2.2]] w fun e w' => e = .returned (.tuple #[.int .i64 k, .bool true]) ∧ Below w.heap.size w w' := by
  refine (at_any w v L s x hs hr hL).mono ?_
  rintro e w' ⟨i, hi, rfl, hB⟩
  have := place_at hr hi hk he
  subst this
  refine ⟨?_, hB⟩
  rw [decide_eq_true]
  exact ⟨hk, cmpA_zero.2 he⟩

/-- What Has tells. -/
def HasA (L : List Asc) (s : Int) (x : Xid) (b z : Bool) : Prop :=
  (rowE L ≠ 0 ∧ b = false ∧ z = false) ∨ (RowA L ∧ ¬ Mem L s x ∧ b = false ∧ z = false) ∨ (RowA L ∧ ∃ k, ∃ h : k < L.length, keyA L[k] = (s, x) ∧ b = true ∧ z = L[k].2.2)

set_option maxRecDepth 100000 in
set_option maxHeartbeats 1600000 in
theorem has_any (w : World) (v : Value) (L : List Asc) (s : Int) (y : Xid) (hs : Slc ascEnc 5 w v L) (hL : L.length ≤ 1000000) :
    Calls Try.prog 65 #[v, .int .u64 s, .agg #[.int .u32 y.1, .string y.2.1, .string y.2.2]] w fun e w' => (∃ b z, e = .returned (.tuple #[.bool b, .bool z]) ∧ HasA L s y b z) ∧ Below w.heap.size w w' := by
  obtain ⟨yf, yg, yb⟩ := y
  simp only
  have hB0 := (Below.refl w.heap.size w).alloc (Nat.le_refl _) (.cells #[.int .u32 yf, .string yg, .string yb] 28)
  have b0 := Blk.new w [.int .u32 yf, .string yg, .string yb] 28
  have hc := check_any (w.alloc (.cells #[.int .u32 yf, .string yg, .string yb] 28)) v L (hs.pure hB0) hL
  rcases rowE_cases L with ⟨h1, h2⟩ | ⟨h1, h2⟩
  · rw [h2] at hc
    have hr := Lib.hid h1.rises
    rcases Classical.em (Mem L s (yf, yg, yb)) with hm | hm
    · obtain ⟨k, hk, he⟩ := hm
      have he' := Lib.hid he; clear he
      obtain ⟨z, hz⟩ : ∃ z, z = L[k].2.2 := ⟨_, rfl⟩
      have hz' := Lib.hid hz
      obtain ⟨a, cap, rfl, hm⟩ := hs.len
      obtain ⟨g, off, rfl⟩ := hs.addr hk
      clear h2 hm
      have h1' := Lib.hid h1; clear h1
      have hat := Lib.hid (fun (w1 : World) (h : Below w.heap.size w w1) => at_yes w1 _ L s (yf, yg, yb) k (hs.pure h) hr.out hL hk he'.out)
      have hsf := Lib.hid (fun (w1 : World) (h : Below w.heap.size w w1) => hz ▸ (asc_cells (hs.pure h) hk).2.2.2.2)
      clear hz hs
      go_enter Try.func65, Try.ntmps65
      go_wp2_with (first | (go_at_call 78; refine hc.mono ?_; clear hc; rintro e w1 ⟨rfl, hB1⟩; have hB1t := hB0.trans (hB1.mono (by simp)); have b1 := b0.pure hB1; have d0 : w1.cell? ⟨w.heap.size, 0, none⟩ = some (.int .u32 yf) := b1.cell 0; have d1 : w1.cell? ⟨w.heap.size, 1, none⟩ = some (.string yg) := b1.cell 1; have d2 : w1.cell? ⟨w.heap.size, 2, none⟩ = some (.string yb) := b1.cell 2) | (go_at_call 104; refine (hat.out _ hB1t).mono ?_; rintro e w2 ⟨rfl, hB2⟩; have hB2t := hB1t.trans (hB2.mono hB1t.size); have c4 := hsf.out _ hB2t))
      go_quiet (fail)
      go_wp2
      go_ret2
      exact ⟨⟨true, z, rfl, Or.inr (Or.inr ⟨h1'.out, k, hk, he'.out, rfl, hz'.out⟩)⟩, below_drewN hB2t _⟩
    · have h1' := Lib.hid h1; clear h1
      have hm' := Lib.hid hm
      have hat := Lib.hid (fun (w1 : World) (h : Below w.heap.size w w1) => at_no w1 v L s (yf, yg, yb) (hs.pure h) hr.out hL hm)
      obtain ⟨a, n, cap, rfl⟩ := hs.shape3
      clear h2 hm hs
      go_enter Try.func65, Try.ntmps65
      go_wp2_with (first | (go_at_call 78; refine hc.mono ?_; clear hc; rintro e w1 ⟨rfl, hB1⟩; have hB1t := hB0.trans (hB1.mono (by simp)); have b1 := b0.pure hB1; have d0 : w1.cell? ⟨w.heap.size, 0, none⟩ = some (.int .u32 yf) := b1.cell 0; have d1 : w1.cell? ⟨w.heap.size, 1, none⟩ = some (.string yg) := b1.cell 1; have d2 : w1.cell? ⟨w.heap.size, 2, none⟩ = some (.string yb) := b1.cell 2) | (go_at_call 104; refine (hat.out _ hB1t).mono ?_; rintro e w2 ⟨i, hi, rfl, hB2⟩; have hB2t := hB1t.trans (hB2.mono hB1t.size)))
      go_quiet (fail)
      go_wp2
      go_ret2
      exact ⟨⟨false, false, rfl, Or.inr (Or.inl ⟨h1'.out, hm'.out, rfl, rfl⟩)⟩, below_drewN hB2t _⟩
  · have hbad := Lib.hid (show rowE L ≠ 0 by rw [h2]; simp)
    rw [h2] at hc
    obtain ⟨a, n, cap, rfl⟩ := hs.shape3
    clear h2 h1 hs
    go_enter Try.func65, Try.ntmps65
    go_wp2_with (go_at_call 78; refine hc.mono ?_; clear hc; rintro e w1 ⟨rfl, hB1⟩; have hB1t := hB0.trans (hB1.mono (by simp)); have b1 := b0.pure hB1; have d0 : w1.cell? ⟨w.heap.size, 0, none⟩ = some (.int .u32 yf) := b1.cell 0; have d1 : w1.cell? ⟨w.heap.size, 1, none⟩ = some (.string yg) := b1.cell 1; have d2 : w1.cell? ⟨w.heap.size, 2, none⟩ = some (.string yb) := b1.cell 2)
    go_ret2
    exact ⟨⟨false, false, rfl, Or.inl ⟨hbad.out, rfl, rfl⟩⟩, hB1t⟩

theorem own_len {α : Type} {enc : α → List Value} {m base : Nat} {e : TypeId} {w : World} {v : Value} {L : List α} (h : Own base e m enc w v L) : ∃ a c, v = .slice a L.length c := by
  rcases h.cases with ⟨rfl, rfl⟩ | ⟨g, cap, rfl, _⟩
  · exact ⟨none, 0, rfl⟩
  · exact ⟨_, _, rfl⟩

noncomputable def cntA (L : List Asc) (x : Xid) : Int := if rowE L = 0 then (L.length : Int) - ((L.filter (fun a => a.2.1 != x)).length : Nat) else 0
set_option maxRecDepth 100000 in
set_option maxHeartbeats 1600000 in
theorem count_any (w : World) (v : Value) (L : List Asc) (y : Xid) (hs : Slc ascEnc 5 w v L) (hL : L.length ≤ 1000000) :
    Calls Try.prog 116 #[v, .agg #[.int .u32 y.1, .string y.2.1, .string y.2.2]] w fun e w' => e = .returned (.int .i64 (cntA L y)) ∧ Below w.heap.size w w' := by
  obtain ⟨yf, yg, yb⟩ := y
  simp only
  have hB0 := (Below.refl w.heap.size w).alloc (Nat.le_refl _) (.cells #[.int .u32 yf, .string yg, .string yb] 28)
  have b0 := Blk.new w [.int .u32 yf, .string yg, .string yb] 28
  have hc := check_any (w.alloc (.cells #[.int .u32 yf, .string yg, .string yb] 28)) v L (hs.pure hB0) hL
  have hfl : (L.filter (fun a => a.2.1 != (yf, yg, yb))).length ≤ L.length := List.length_filter_le _ _
  rcases rowE_cases L with ⟨h1, h2⟩ | ⟨h1, h2⟩
  · have hv := Lib.hid (show cntA L (yf, yg, yb) = (L.length : Int) - ((L.filter (fun a => a.2.1 != (yf, yg, yb))).length : Nat) by unfold cntA; rw [if_pos h2])
    rw [h2] at hc
    have hwo := Lib.hid (fun (w1 : World) (h : Below w.heap.size w w1) => without_xid w1 v L (yf, yg, yb) (hs.pure h) hL)
    obtain ⟨a, cap, rfl, hm⟩ := hs.len
    clear h2 h1 hs hm
    obtain ⟨n, hn⟩ : ∃ n, n = (L.filter (fun a => a.2.1 != (yf, yg, yb))).length := ⟨_, rfl⟩
    rw [← hn] at hfl hv
    have hn' := Lib.hid hn; clear hn
    have hwrap : IntKind.i64.wrap ((L.length : Int) - (n : Int)) = (L.length : Int) - (n : Int) := IntWalk.i64_in _ (by omega)
    go_enter Try.func116, Try.ntmps116
    go_wp2_with (first | (go_at_call 78; refine hc.mono ?_; clear hc; rintro e w1 ⟨rfl, hB1⟩; have hB1t := hB0.trans (hB1.mono (by simp)); have b1 := b0.pure hB1; have d0 : w1.cell? ⟨w.heap.size, 0, none⟩ = some (.int .u32 yf) := b1.cell 0; have d1 : w1.cell? ⟨w.heap.size, 1, none⟩ = some (.string yg) := b1.cell 1; have d2 : w1.cell? ⟨w.heap.size, 2, none⟩ = some (.string yb) := b1.cell 2) | (go_at_call 129; refine (hwo.out _ hB1t).mono ?_; rintro e w2 ⟨r, rfl, hO, hB2⟩; obtain ⟨ra, rc, rfl⟩ := own_len hO; rw [← hn'.out]; have hB2t := hB1t.trans (hB2.mono hB1t.size)))
    go_ret
    exact ⟨by rw [hv.out]; simp, hB2t⟩
  · have hv := Lib.hid (show cntA L (yf, yg, yb) = 0 by unfold cntA; rw [if_neg (by rw [h2]; simp)])
    rw [h2] at hc
    obtain ⟨a, n, cap, rfl⟩ := hs.shape3
    clear h2 h1 hs
    go_enter Try.func116, Try.ntmps116
    go_wp2_with (go_at_call 78; refine hc.mono ?_; clear hc; rintro e w1 ⟨rfl, hB1⟩; have hB1t := hB0.trans (hB1.mono (by simp)); have b1 := b0.pure hB1; have d0 : w1.cell? ⟨w.heap.size, 0, none⟩ = some (.int .u32 yf) := b1.cell 0; have d1 : w1.cell? ⟨w.heap.size, 1, none⟩ = some (.string yg) := b1.cell 1; have d2 : w1.cell? ⟨w.heap.size, 2, none⟩ = some (.string yb) := b1.cell 2)
    go_ret
    exact ⟨by rw [hv.out]; rfl, hB1t⟩
end Go.Proofs.Ytcelpincmpjhkaa

/- Package assoc: set, Leave. Conditions: the row reads as associations; at most a million. -/
namespace Go.Proofs.Ytcelpincmpjhkaa
set_option linter.unusedSimpArgs false
set_option linter.unusedVariables false
open Go.RowKit

/-- An association with another word. -/
def Asc.susp (a : Asc) (b : Bool) : Asc := (a.1, a.2.1, b)

set_option maxRecDepth 100000 in
set_option maxHeartbeats 1600000 in
theorem set_any (w : World) (v : Value) (L : List Asc) (k : Nat) (b : Bool) (hs : Slc ascEnc 5 w v L) (hL : L.length ≤ 1000000) (hk : k < L.length) :
    Calls Try.prog 106 #[v, .int .i64 k, .bool b] w fun e w' => ∃ r, e = .returned r ∧ Own w.heap.size 57 5 ascEnc w' r (L.set k (L[k].susp b)) ∧ Below w.heap.size w w' := by
  have hcl := Lib.hid (asc_clone w v L hs hL)
  obtain ⟨a, n, cap, rfl⟩ := hs.shape3
  clear hs
  go_enter Try.func106, Try.ntmps106
  go_wp2_with (go_at_call 101; refine hcl.out.mono ?_; rintro e w1 ⟨r, rfl, hO, hB⟩; obtain ⟨g, c, rfl, hg, hgl⟩ := hO.shape (fun e => by rw [e] at hk; simp at hk); have c4 := (asc_cells (hO.slc ascEnc_len) hk).2.2.2.2; have z4 := hO.frozen (k * 5 + 4); simp only [Nat.zero_add] at c4)
  go_ret
  refine ⟨_, rfl, ?_, below_set hB hg _ _⟩
  have := hO.set ascEnc_len k hk 4 (.bool b) (L[k].susp b) (by omega) rfl
  simpa using this

set_option maxRecDepth 100000 in
set_option maxHeartbeats 1600000 in
theorem leave_any (w : World) (v : Value) (L : List Asc) (s : Int) (hs : Slc ascEnc 5 w v L) (hL : L.length ≤ 1000000) :
    Calls Try.prog 96 #[v, .int .u64 s] w fun e w' => ∃ r, e = .returned (.tuple #[r, .int .i64 (mayN L s (0, ⟨#[120]⟩, ⟨#[]⟩))]) ∧ Own w.heap.size 57 5 ascEnc w' r (if mayN L s (0, ⟨#[120]⟩, ⟨#[]⟩) = 0 then L.filter (fun a => a.1 != s) else []) ∧ Below w.heap.size w w' := by
  have hm := may_any w v L s (0, ⟨#[120]⟩, ⟨#[]⟩) hs hL
  obtain ⟨c, hc⟩ : ∃ c, c = mayN L s (0, ⟨#[120]⟩, ⟨#[]⟩) := ⟨_, rfl⟩
  rw [← hc] at hm ⊢
  clear hc
  have hm' := Lib.hid hm; clear hm
  by_cases hz : c = 0
  · subst hz
    have hwo := Lib.hid (fun (w1 : World) (h : Below w.heap.size w w1) => without_ses w1 v L s (hs.pure h) hL)
    obtain ⟨a, n, cap, rfl⟩ := hs.shape3
    clear hs
    go_enter Try.func96, Try.ntmps96
    go_wp2_with (first | (go_at_call 103; refine hm'.out.mono ?_; rintro e w1 ⟨rfl, hB1⟩) | (go_at_call 119; refine (hwo.out _ hB1).mono ?_; rintro e w2 ⟨r, rfl, hO, hB2⟩))
    go_ret2
    exact ⟨r, rfl, hO.rebase (fun k hk => Nat.le_trans hB1.size (hO.ge hk)), hB1.trans (hB2.mono hB1.size)⟩
  · have hzb : (c != 0) = true := bne_iff_ne.2 hz
    rw [if_neg hz]
    obtain ⟨a, n, cap, rfl⟩ := hs.shape3
    clear hs hz
    go_enter Try.func96, Try.ntmps96
    go_wp2_with (go_at_call 103; refine hm'.out.mono ?_; rintro e w1 ⟨rfl, hB1⟩)
    go_ret2
    exact ⟨_, rfl, Own.nil, hB1⟩
end Go.Proofs.Ytcelpincmpjhkaa
