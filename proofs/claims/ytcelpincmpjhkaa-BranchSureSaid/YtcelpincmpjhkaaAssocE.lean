/- Package assoc: without by name; comparisons of structs. -/
import Derived.Test.YtcelpincmpjhkaaAssocD
namespace Go.Proofs.Ytcelpincmpjhkaa
open Go.RowKit
set_option linter.unusedVariables false

theorem bytes_beq (a b : ByteArray) : (a.toList == b.toList) = (a == b) := (beq_toListBytes a b).symm

set_option maxRecDepth 100000 in
set_option maxHeartbeats 800000 in
theorem xid_eql (w : World) (xf yf : Int) (xg xb yg yb : ByteArray) : (binOp .eql 28 (.agg #[.int .u32 xf, .string xg, .string xb]) (.agg #[.int .u32 yf, .string yg, .string yb])).run Try.prog w = .ok (.bool (xf == yf && (xg == yg && xb == yb))) w := by
  have hf : Try.prog.fieldsOf 28 = (match Try.prog.underlying 28 with | some (.struct fs) => fs | _ => #[]) := rfl
  rw [Try.underlying28] at hf
  simp only at hf
  rw [run_eql_struct, show (10000 : Nat) = 9999 + 1 from rfl, run_equalIn_agg w 9999 _ _ _ (by rw [hf]; exact Try.underlying28) (by kernel_rfl), hf]
  cases h1 : (xf == yf) <;> cases h2 : (xg == yg) <;> cases h3 : (xb == yb) <;> simp [go_sem, bytes_beq, h1, h2, h3]

set_option maxRecDepth 100000 in
set_option maxHeartbeats 800000 in
theorem xid_neq (w : World) (xf yf : Int) (xg xb yg yb : ByteArray) : (binOp .neq 28 (.agg #[.int .u32 xf, .string xg, .string xb]) (.agg #[.int .u32 yf, .string yg, .string yb])).run Try.prog w = .ok (.bool ((xf, xg, xb) != (yf, yg, yb))) w := by
  have hf : Try.prog.fieldsOf 28 = (match Try.prog.underlying 28 with | some (.struct fs) => fs | _ => #[]) := rfl
  rw [Try.underlying28] at hf
  simp only at hf
  rw [run_neq_struct, show (10000 : Nat) = 9999 + 1 from rfl, run_equalIn_agg w 9999 _ _ _ (by rw [hf]; exact Try.underlying28) (by kernel_rfl), hf]
  have hh : ((xf, xg, xb) != (yf, yg, yb)) = !(xf == yf && (xg == yg && xb == yb)) := rfl
  rw [hh]
  cases h1 : (xf == yf) <;> cases h2 : (xg == yg) <;> cases h3 : (xb == yb) <;> simp [go_sem, bytes_beq, h1, h2, h3]

set_option maxRecDepth 100000 in
set_option maxHeartbeats 800000 in
theorem asc_eql (w : World) (s r : Int) (xf yf : Int) (xg xb yg yb : ByteArray) (p q : Bool) : (binOp .eql 57 (.agg #[.int .u64 s, .int .u32 xf, .string xg, .string xb, .bool p]) (.agg #[.int .u64 r, .int .u32 yf, .string yg, .string yb, .bool q])).run Try.prog w = .ok (.bool (s == r && ((xf == yf && (xg == yg && xb == yb)) && p == q))) w := by
  have hf : Try.prog.fieldsOf 57 = (match Try.prog.underlying 57 with | some (.struct fs) => fs | _ => #[]) := rfl
  rw [Try.underlying57] at hf
  simp only at hf
  have hf2 : Try.prog.fieldsOf 28 = (match Try.prog.underlying 28 with | some (.struct fs) => fs | _ => #[]) := rfl
  rw [Try.underlying28] at hf2
  simp only at hf2
  rw [run_eql_struct, show (10000 : Nat) = 9999 + 1 from rfl, run_equalIn_agg w 9999 _ _ _ (by rw [hf]; exact Try.underlying57) (by kernel_rfl), hf]
  cases h0 : (s == r) <;> cases h1 : (xf == yf) <;> cases h2 : (xg == yg) <;> cases h3 : (xb == yb) <;> cases p <;> cases q <;> simp [go_sem, bytes_beq, h0, h1, h2, h3, hf2]
theorem asc_len_le (p : Asc → Bool) (L : List Asc) (k : Nat) : ((L.take k).filter p).length ≤ k := Nat.le_trans (List.length_filter_le _ _) (by rw [List.length_take]; omega)

set_option maxRecDepth 100000 in
set_option maxHeartbeats 1600000 in
theorem without_xid (w : World) (v : Value) (L : List Asc) (y : Xid) (hs : Slc ascEnc 5 w v L) (hL : L.length ≤ 1000000) :
    Calls Try.prog 129 #[v, .func (.func 130) #[] #[], .agg #[.int .u32 y.1, .string y.2.1, .string y.2.2]] w fun e w' => ∃ r, e = .returned r ∧ Own w.heap.size 57 5 ascEnc w' r (L.filter (fun a => a.2.1 != y)) ∧ Below w.heap.size w w' := by
  obtain ⟨yf, yg, yb⟩ := y
  simp only
  obtain ⟨a, cap, rfl, hm⟩ := hs.len
  unfold maxLen at hm
  have hB0 := (Below.refl w.heap.size w).alloc (Nat.le_refl _) (.cells #[.int .u32 yf, .string yg, .string yb] 28)
  have by0 := Blk.new w [.int .u32 yf, .string yg, .string yb] 28
  go_enter Try.func129, Try.ntmps129
  go_wp2
  go_loopw [7, 12] (fun s7 s12 wr => ∃ k : Nat, k ≤ L.length ∧ s12 = .int .i64 k ∧ Own (w.heap.size + 1) 57 5 ascEnc wr s7 ((L.take k).filter (fun a => a.2.1 != (yf, yg, yb))) ∧ Below (w.heap.size + 1) (w.alloc (.cells #[.int .u32 yf, .string yg, .string yb] 28)) wr) (fun _ s12 _ => L.length - (intOf s12).toNat)
  case atStart => exact ⟨0, by omega, rfl, Own.nil, Below.refl _ _⟩
  case round =>
    obtain ⟨k, hk, rfl, hO, hB⟩ := hrel
    have hBs : w.heap.size + 1 ≤ wr.heap.size := by have := hB.size; simpa using this
    by_cases hlt : k < L.length
    · have hsr := (hs.pure hB0).pure (hB.mono (by simp))
      obtain ⟨g, off, rfl⟩ := hsr.addr hlt
      obtain ⟨c0, c1, c2, c3, c4⟩ := asc_cells hsr hlt
      have hll := asc_len_le (fun a => a.2.1 != (yf, yg, yb)) L k
      have hkeq := Lib.hid (filter_snoc (p := (fun a => a.2.1 != (yf, yg, yb))) hlt)
      obtain ⟨x, hx⟩ : ∃ x, x = L[k] := ⟨_, rfl⟩
      rw [← hx] at c0 c1 c2 c3 c4 hkeq
      clear hx
      obtain ⟨xs, ⟨xf, xg, xb⟩, xz⟩ := x
      simp only at c0 c1 c2 c3 c4 hkeq
      have b0 := Blk.new wr [.int .u64 xs, .int .u32 xf, .string xg, .string xb, .bool xz] 57
      have byr := by0.below hB (by omega)
      have byb := byr.alloc (.cells #[.int .u64 xs, .int .u32 xf, .string xg, .string xb, .bool xz] 57)
      have hBb := hB.alloc hBs (.cells #[.int .u64 xs, .int .u32 xf, .string xg, .string xb, .bool xz] 57)
      have hOb := hO.alloc (.cells #[.int .u64 xs, .int .u32 xf, .string xg, .string xb, .bool xz] 57)
      have hBbs : w.heap.size + 1 ≤ (wr.alloc (.cells #[.int .u64 xs, .int .u32 xf, .string xg, .string xb, .bool xz] 57)).drew.heap.size := by show _ ≤ (wr.alloc (.cells #[.int .u64 xs, .int .u32 xf, .string xg, .string xb, .bool xz] 57)).heap.size; simp; omega
      have e0 : (wr.alloc (.cells #[.int .u64 xs, .int .u32 xf, .string xg, .string xb, .bool xz] 57)).cell? ⟨w.heap.size, 0, none⟩ = some (.int .u32 yf) := byb.cell 0
      have e1 : (wr.alloc (.cells #[.int .u64 xs, .int .u32 xf, .string xg, .string xb, .bool xz] 57)).cell? ⟨w.heap.size, 1, none⟩ = some (.string yg) := byb.cell 1
      have e2 : (wr.alloc (.cells #[.int .u64 xs, .int .u32 xf, .string xg, .string xb, .bool xz] 57)).cell? ⟨w.heap.size, 2, none⟩ = some (.string yb) := byb.cell 2
      have f0 : (wr.alloc (.cells #[.int .u64 xs, .int .u32 xf, .string xg, .string xb, .bool xz] 57)).cell? ⟨wr.heap.size, 0, none⟩ = some (.int .u64 xs) := b0.cell 0
      have f1 : (wr.alloc (.cells #[.int .u64 xs, .int .u32 xf, .string xg, .string xb, .bool xz] 57)).cell? ⟨wr.heap.size, 1, none⟩ = some (.int .u32 xf) := b0.cell 1
      have f2 : (wr.alloc (.cells #[.int .u64 xs, .int .u32 xf, .string xg, .string xb, .bool xz] 57)).cell? ⟨wr.heap.size, 2, none⟩ = some (.string xg) := b0.cell 2
      have f3 : (wr.alloc (.cells #[.int .u64 xs, .int .u32 xf, .string xg, .string xb, .bool xz] 57)).cell? ⟨wr.heap.size, 3, none⟩ = some (.string xb) := b0.cell 3
      have f4 : (wr.alloc (.cells #[.int .u64 xs, .int .u32 xf, .string xg, .string xb, .bool xz] 57)).cell? ⟨wr.heap.size, 4, none⟩ = some (.bool xz) := b0.cell 4
      have hqe := fun (u : World) => xid_eql u xf yf xg xb yg yb
      have hqn : ∀ u : World, (binOp .neq 28 (.agg #[.int .u32 xf, .string xg, .string xb]) (.agg #[.int .u32 yf, .string yg, .string yb])).run Try.prog u = .ok (.bool ((xf, xg, xb) != (yf, yg, yb))) u := fun u => xid_neq u xf yf xg xb yg yb
      clear hqe
      cases hq : ((xf, xg, xb) != (yf, yg, yb))
      · have hnew := Lib.hid (show (L.take (k + 1)).filter (fun a => a.2.1 != (yf, yg, yb)) = (L.take k).filter (fun a => a.2.1 != (yf, yg, yb)) by rw [hkeq.out]; simp only [hq]; simp)
        rw [hq] at hqn
        have hq' := Lib.hid hq; clear hq
        go_wp2
        go_region_held3 (fun w' => w'.cell? ⟨w.heap.size, 0, none⟩ = some (.int .u32 yf) ∧ w'.cell? ⟨w.heap.size, 1, none⟩ = some (.string yg) ∧ w'.cell? ⟨w.heap.size, 2, none⟩ = some (.string yb) ∧ w'.cell? ⟨wr.heap.size, 0, none⟩ = some (.int .u64 xs) ∧ w'.cell? ⟨wr.heap.size, 1, none⟩ = some (.int .u32 xf) ∧ w'.cell? ⟨wr.heap.size, 2, none⟩ = some (.string xg) ∧ w'.cell? ⟨wr.heap.size, 3, none⟩ = some (.string xb) ∧ w'.cell? ⟨wr.heap.size, 4, none⟩ = some (.bool xz)) (first | exact ⟨e0, e1, e2, f0, f1, f2, f3, f4⟩ | exact ⟨d0, d1, d2, g0, g1, g2, g3, g4⟩) (first | (go_at_call 130; refine (name_any _ (xs, (xf, xg, xb), xz)).mono ?_; rintro e w1 ⟨rfl, hB1⟩; have hO1 := hOb.drew.pure hB1; have hB2 := (below_dr hBb).trans (hB1.mono hBbs); have hB2s := Nat.le_trans hBbs hB1.size; have by1 := byb.drew.pure hB1; have b1 := b0.drew.pure hB1; have d0 : w1.cell? ⟨w.heap.size, 0, none⟩ = some (.int .u32 yf) := by1.cell 0; have d1 : w1.cell? ⟨w.heap.size, 1, none⟩ = some (.string yg) := by1.cell 1; have d2 : w1.cell? ⟨w.heap.size, 2, none⟩ = some (.string yb) := by1.cell 2; have g0 : w1.cell? ⟨wr.heap.size, 0, none⟩ = some (.int .u64 xs) := b1.cell 0; have g1 : w1.cell? ⟨wr.heap.size, 1, none⟩ = some (.int .u32 xf) := b1.cell 1; have g2 : w1.cell? ⟨wr.heap.size, 2, none⟩ = some (.string xg) := b1.cell 2; have g3 : w1.cell? ⟨wr.heap.size, 3, none⟩ = some (.string xb) := b1.cell 3; have g4 : w1.cell? ⟨wr.heap.size, 4, none⟩ = some (.bool xz) := b1.cell 4; clear e0 e1 e2 f0 f1 f2 f3 f4))
        go_wp2
        go_roundw
        case rel => exact ⟨k + 1, by omega, by go_num, by rw [hnew.out]; exact hO1, hB2⟩
        case measure => simp [intOf]; omega
      · have hnew := Lib.hid (show (L.take (k + 1)).filter (fun a => a.2.1 != (yf, yg, yb)) = (L.take k).filter (fun a => a.2.1 != (yf, yg, yb)) ++ [(xs, (xf, xg, xb), xz)] by rw [hkeq.out]; simp only [hq]; simp)
        rw [hq] at hqn
        have hq' := Lib.hid hq; clear hq
        go_wp2
        go_region_held3 (fun w' => w'.cell? ⟨w.heap.size, 0, none⟩ = some (.int .u32 yf) ∧ w'.cell? ⟨w.heap.size, 1, none⟩ = some (.string yg) ∧ w'.cell? ⟨w.heap.size, 2, none⟩ = some (.string yb) ∧ w'.cell? ⟨wr.heap.size, 0, none⟩ = some (.int .u64 xs) ∧ w'.cell? ⟨wr.heap.size, 1, none⟩ = some (.int .u32 xf) ∧ w'.cell? ⟨wr.heap.size, 2, none⟩ = some (.string xg) ∧ w'.cell? ⟨wr.heap.size, 3, none⟩ = some (.string xb) ∧ w'.cell? ⟨wr.heap.size, 4, none⟩ = some (.bool xz)) (first | exact ⟨e0, e1, e2, f0, f1, f2, f3, f4⟩ | exact ⟨d0, d1, d2, g0, g1, g2, g3, g4⟩) (first | (go_at_call 130; refine (name_any _ (xs, (xf, xg, xb), xz)).mono ?_; rintro e w1 ⟨rfl, hB1⟩; have hO1 := hOb.drew.pure hB1; have hB2 := (below_dr hBb).trans (hB1.mono hBbs); have hB2s := Nat.le_trans hBbs hB1.size; have by1 := byb.drew.pure hB1; have b1 := b0.drew.pure hB1; have d0 : w1.cell? ⟨w.heap.size, 0, none⟩ = some (.int .u32 yf) := by1.cell 0; have d1 : w1.cell? ⟨w.heap.size, 1, none⟩ = some (.string yg) := by1.cell 1; have d2 : w1.cell? ⟨w.heap.size, 2, none⟩ = some (.string yb) := by1.cell 2; have g0 : w1.cell? ⟨wr.heap.size, 0, none⟩ = some (.int .u64 xs) := b1.cell 0; have g1 : w1.cell? ⟨wr.heap.size, 1, none⟩ = some (.int .u32 xf) := b1.cell 1; have g2 : w1.cell? ⟨wr.heap.size, 2, none⟩ = some (.string xg) := b1.cell 2; have g3 : w1.cell? ⟨wr.heap.size, 3, none⟩ = some (.string xb) := b1.cell 3; have g4 : w1.cell? ⟨wr.heap.size, 4, none⟩ = some (.bool xz) := b1.cell 4; clear e0 e1 e2 f0 f1 f2 f3 f4))
        go_wp2_with (at_builtin; refine wpList_app1 rfl (.tmp 21) (.tmp 23) 23 57 rfl elem_asc ascEnc_len ascEnc_one u7 _ rfl (hO1.alloc _) w1.heap.size 1 (xs, (xf, xg, xb), xz) rfl (fun j u hu => ((Blk.new w1 (ascEnc (xs, (xf, xg, xb), xz)) 57).cell j).trans hu) (by omega) (by unfold maxLen; omega) (by simp; omega) ?_; intro g' cap' w4 hown hgr hfr)
        go_roundw
        case rel => exact ⟨k + 1, by omega, by go_num, by rw [hnew.out]; exact hown, (hB2.alloc hB2s _).grown hgr (by simp; omega) (fun j e => hO1.ge e)⟩
        case measure => simp [intOf]; omega
    · obtain rfl : k = L.length := by omega
      rw [List.take_length] at hO
      go_wp2
      go_ret
      exact ⟨_, rfl, hO.rebase (fun j hj => by have := hO.ge hj; omega), hB0.trans (hB.mono (by omega))⟩
end Go.Proofs.Ytcelpincmpjhkaa
