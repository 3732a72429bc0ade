/- maps.Keys and slices.Sorted at a map of names. Conditions: fewer than a million names. (Texts joined.) -/
import Derived.Test.YtlonokcaddpniaaGreatDoorWH
import Derived.Test.YtlonokcaddpniaaGreatDoorKA
import Derived.Shelf.SlIter.Nil
import Derived.Shelf.SortM.Plain
import Derived.Shelf.SortM.SortNone
import Derived.Test.YtlonokcaddpniaaGreatDoorProg
set_option linter.unusedSimpArgs false
set_option linter.unusedVariables false
namespace Go.Proofs.YtlonokcaddpniaaGreatDoor
open Go.RowKit
def Wk.emptyB (w : Wk) : Bool := !w.okB || decide (w.puts.length + w.takes.length = 0)
def u64Enc (n : Int) : List Value := [.int .u64 n]
theorem u64Enc_len (n : Int) : (u64Enc n).length = 1 := rfl
theorem u64Enc_one (n : Int) : ∀ u ∈ u64Enc n, u.oneCell' = true := by simp [u64Enc, Value.oneCell']
theorem info_u64W : (Tryz.prog.info? 26).map (fun i => (i.zero, i.size, i.bytes)) = some (some (.int .u64 0), 1, 8) := by kernel_rfl
theorem elem_u64W : ElemT Tryz.prog 70 26 1 8 := ElemT.mk' Tryz.underlying70 info_u64W rfl (by omega)
theorem wk_len100 {t : WkT} (h : t.w.okB = true) : t.puts.length ≤ 100 ∧ t.takes.length ≤ 100 := by
  have h := (wk_okB _).1 h; have h1 : (t.puts.map PtT.p).length ≤ 100 := h.1; rw [List.length_map] at h1; exact ⟨h1, h.2.1⟩
theorem countP_step {α : Type} (p : α → Bool) (l : List α) (k : Nat) (h : k < l.length) : (l.take (k + 1)).countP p = (l.take k).countP p + if p l[k] = true then 1 else 0 := by
  rw [List.take_succ_eq_append_getElem h, List.countP_append, List.countP_singleton]
theorem filter_step {α : Type} (p : α → Bool) (l : List α) (k : Nat) (h : k < l.length) : (l.take (k + 1)).filter p = (l.take k).filter p ++ if p l[k] = true then [l[k]] else [] := by
  rw [List.take_succ_eq_append_getElem h, List.filter_append]; congr 1; cases hp : p l[k] <;> simp [hp]
set_option maxRecDepth 100000 in
set_option maxHeartbeats 6400000 in
theorem wempty_any (hCk : CkOk) (t : WkT) (P : Nat → Prop) (w : World) (hR : WkRd P w t) (hT : Tb w) : Calls Tryz.prog 24 #[t.arg] w fun e w' => e = .returned (.bool t.w.emptyB) ∧ Below w.heap.size w w' := by
  obtain ⟨c, hc⟩ : ∃ c, t.w.chk = c := ⟨_, rfl⟩
  have hokc := wk_okc (w := t.w); have hw1 := fun (u : World) (h : Below w.heap.size w u) => wcheck_any hCk t P u (hR.pure h) (hT.pure h)
  rw [hc] at hw1 hokc; obtain ⟨pa, pc, ta, tc, puts, takes, rfl, hpl, htl⟩ := wkrd_open hR; rw [WkT.arg_mk] at hw1 ⊢; have hpi : (puts.length : Int) ≤ 9223372036854775807 := by unfold maxLen at hpl; omega
  have hti : (takes.length : Int) ≤ 9223372036854775807 := by unfold maxLen at htl; omega
  have hw1h := Lib.hid hw1; have hRh := Lib.hid hR; have hokh := Lib.hid hokc; clear hw1 hR hc hpl htl hokc; have hB1 := (Below.refl w.heap.size w).alloc (Nat.le_refl _) (.cells #[.slice pa puts.length pc, .slice ta takes.length tc] 25); have A1 := Blk.new w [.slice pa puts.length pc, .slice ta takes.length tc] 25; have a0 := A1.at 0 rfl; have a1 := A1.at 1 rfl
  have he : (WkT.mk (.slice pa puts.length pc) (.slice ta takes.length tc) puts takes).w.emptyB = (!(decide (c = 0)) || decide (puts.length + takes.length = 0)) := by
    unfold Wk.emptyB; rw [hokh.out]; show (_ || decide ((puts.map PtT.p).length + takes.length = 0)) = _
    rw [List.length_map]
  rw [he]; have hpp := fun (h : c = 0) => wk_len100 (t := WkT.mk (.slice pa puts.length pc) (.slice ta takes.length tc) puts takes) (by rw [hokh.out, h]; rfl)
  clear he hokh; by_cases hc0 : c = 0
  rotate_left 1
  · have hc1 : (c != 0) = true := bne_iff_ne.2 hc0; rw [decide_eq_false hc0]; go_enter Tryz.func24, Tryz.ntmps24; go_wp2_with (go_at_call 16; (with_reducible refine (hw1h.out _ hB1).mono ?_); rintro e w2 ⟨rfl, hB2⟩; have A2 := A1.pure hB2; have hT2 := hB1.trans (hB2.mono hB1.size)); go_ret; exact ⟨rfl, hT2⟩
  subst hc0; rw [decide_eq_true rfl]; have hp1 : puts.length ≤ 100 := (hpp rfl).1; have hp2 : takes.length ≤ 100 := (hpp rfl).2; clear hpp; have hsum : (puts.length : Int) + (takes.length : Int) ≤ 9223372036854775807 := by omega
  clear hp1 hp2; by_cases h0 : puts.length + takes.length = 0
  focus
    rw [decide_eq_true h0]; have h1 : (puts.length : Int) + (takes.length : Int) = 0 := by omega
    have h2 : ((puts.length : Int) + (takes.length : Int) == 0) = true := beq_iff_eq.2 h1
  rotate_left 1
  focus
    rw [decide_eq_false h0]; have h1 : ¬ (puts.length : Int) + (takes.length : Int) = 0 := by omega
    have h2 : ((puts.length : Int) + (takes.length : Int) == 0) = false := beq_eq_false_iff_ne.2 h1
  rotate_left 1
  all_goals
    clear h0 h1; go_enter Tryz.func24, Tryz.ntmps24; go_wp2_with (go_at_call 16; (with_reducible refine (hw1h.out _ hB1).mono ?_); rintro e w2 ⟨rfl, hB2⟩; have A2 := A1.pure hB2; have hT2 := hB1.trans (hB2.mono hB1.size); have b0 := A2.at 0 rfl; have b1 := A2.at 1 rfl); go_ret; exact ⟨rfl, hT2⟩
set_option maxRecDepth 100000 in
set_option maxHeartbeats 6400000 in
theorem winto_any (hCk : CkOk) (t : WkT) (P : Nat → Prop) (w : World) (hR : WkRd P w t) (hT : Tb w) (x : ByteArray) : Calls Tryz.prog 27 #[t.arg, .string x] w fun e w' => e = .returned (.int .i64 (t.w.into x : Nat)) ∧ Below w.heap.size w w' := by
  obtain ⟨c, hc⟩ : ∃ c, t.w.chk = c := ⟨_, rfl⟩
  have hokc := wk_okc (w := t.w); have hw1 := fun (u : World) (h : Below w.heap.size w u) => wcheck_any hCk t P u (hR.pure h) (hT.pure h)
  rw [hc] at hw1 hokc; obtain ⟨pa, pc, ta, tc, puts, takes, rfl, hpl, htl⟩ := wkrd_open hR; rw [WkT.arg_mk] at hw1 ⊢; have hpi : (puts.length : Int) ≤ 9223372036854775807 := by unfold maxLen at hpl; omega
  have hti : (takes.length : Int) ≤ 9223372036854775807 := by unfold maxLen at htl; omega
  have hw1h := Lib.hid hw1; have hRh := Lib.hid hR; have hokh := Lib.hid hokc; clear hw1 hR hc hpl htl hokc; have hB1 := (Below.refl w.heap.size w).alloc (Nat.le_refl _) (.cells #[.slice pa puts.length pc, .slice ta takes.length tc] 25); have A1 := Blk.new w [.slice pa puts.length pc, .slice ta takes.length tc] 25; have a0 := A1.at 0 rfl; have a1 := A1.at 1 rfl
  have hi := Lib.hid (show (WkT.mk (.slice pa puts.length pc) (.slice ta takes.length tc) puts takes).w.into x = if c = 0 then puts.countP (fun p => p.q.toList == x.toList) else 0 by
    unfold Wk.into; rw [hokh.out]; by_cases h : c = 0
    · rw [decide_eq_true h, if_pos h, if_neg (by simp)]; show (puts.map PtT.p).countP _ = _
      rw [List.countP_map]; rfl
    · rw [decide_eq_false h, if_neg h, if_pos rfl])
  by_cases hc0 : c = 0
  rotate_left 1
  · have hc1 : (c == 0) = false := beq_eq_false_iff_ne.2 hc0; go_enter Tryz.func27, Tryz.ntmps27; go_wp2_with (go_at_call 16; (with_reducible refine (hw1h.out _ hB1).mono ?_); rintro e w2 ⟨rfl, hB2⟩; have A2 := A1.pure hB2; have hT2 := hB1.trans (hB2.mono hB1.size)); go_ret; rw [hi.out, if_neg hc0]; exact ⟨rfl, hT2⟩
  subst hc0; rw [hi.out, if_pos rfl]; have h100 := Lib.hid (wk_len100 (t := WkT.mk (.slice pa puts.length pc) (.slice ta takes.length tc) puts takes) (by rw [hokh.out]; rfl)).2; clear hi; go_enter Tryz.func27, Tryz.ntmps27; go_upto_region 3 with (go_at_call 16; (with_reducible refine (hw1h.out _ hB1).mono ?_); rintro e w2 ⟨rfl, hB2⟩; have A2 := A1.pure hB2; have hT2 := hB1.trans (hB2.mono hB1.size); have b0 := A2.at 0 rfl); have R2 := hRh.out.pure hT2; have hs2 := Lib.hid hT2.size; clear hRh hB1 A1 hB2 hw1h a0 a1 A2 hokh; go_wp2; clear b0; go_loopw [5, 14] (fun s5 s14 wr => ∃ k : Nat, k ≤ puts.length ∧ s5 = .int .i64 ((puts.take k).countP (fun p => p.q.toList == x.toList) : Nat) ∧ s14 = .int .i64 k ∧ Below w2.heap.size w2 wr) (fun _ s14 _ => puts.length - (intOf s14).toNat)
  case atStart => exact ⟨0, Nat.zero_le _, by simp, rfl, Below.refl _ _⟩
  case round =>
    obtain ⟨k, hk, rfl, rfl, hB⟩ := hrel; by_cases hkt : k < puts.length
    · have hRr := R2.pure hB; have hSl : Slc ptEnc 12 wr (.slice pa puts.length pc) puts := hRr.p; have hRd := hRr.r puts[k] (List.getElem_mem hkt); obtain ⟨g, off, rfl⟩ := hSl.addrB hkt; obtain ⟨q, id, key, dur, red, mid, uk, un, us, uka, ukc, ula, ulc, uks, ul, body, hx, c0, c1, c2, c3, c4, c5, c6, c7, c8, c9, c10, c11⟩ := pt_elem hSl hkt hRd; have hst := countP_step (fun (p : PtT) => p.q.toList == x.toList) puts k hkt; rw [hx] at hst; dsimp only at hst; obtain ⟨n, hn⟩ : ∃ n : Nat, (puts.take k).countP (fun p => p.q.toList == x.toList) = n := ⟨_, rfl⟩
      have hnl : n ≤ k := by rw [← hn]; exact Nat.le_trans List.countP_le_length (by rw [List.length_take]; omega)
      rw [hn] at hst ⊢; obtain ⟨b, hb⟩ : ∃ b, (q.toList == x.toList) = b := ⟨_, rfl⟩
      rw [hb] at hst; have hsth := Lib.hid hst; clear hst hn hx hRd hSl hRr; have hB3 := hB.alloc hB.size (.cells #[.string q, .int .u64 id, .string key, .bool dur, .bool red, .string mid, .int .u8 uk, .int .u64 un, .string us, .slice uka uks.length ukc, .slice ula ul.length ulc, .string body] 35); cases b
      all_goals
        go_wp2; go_roundw
        case rel => exact ⟨k + 1, by omega, by rw [hsth.out]; simp, by go_num, hB3⟩
        case measure => simp [intOf]; omega
    · obtain rfl : k = puts.length := by omega
      rw [List.take_length]; go_wp2; go_ret; exact ⟨rfl, hT2.trans (hB.mono hT2.size)⟩
set_option maxRecDepth 100000 in
set_option maxHeartbeats 6400000 in
theorem wfrom_any (hCk : CkOk) (t : WkT) (P : Nat → Prop) (w : World) (hR : WkRd P w t) (hT : Tb w) (x : ByteArray) : Calls Tryz.prog 30 #[t.arg, .string x] w fun e w' => ∃ v, e = .returned v ∧ Own w.heap.size 26 1 u64Enc w' v (t.w.fromL x) ∧ Below w.heap.size w w' := by
  obtain ⟨c, hc⟩ : ∃ c, t.w.chk = c := ⟨_, rfl⟩
  have hokc := wk_okc (w := t.w); have hw1 := fun (u : World) (h : Below w.heap.size w u) => wcheck_any hCk t P u (hR.pure h) (hT.pure h)
  rw [hc] at hw1 hokc; obtain ⟨pa, pc, ta, tc, puts, takes, rfl, hpl, htl⟩ := wkrd_open hR; rw [WkT.arg_mk] at hw1 ⊢; have hpi : (puts.length : Int) ≤ 9223372036854775807 := by unfold maxLen at hpl; omega
  have hti : (takes.length : Int) ≤ 9223372036854775807 := by unfold maxLen at htl; omega
  have hw1h := Lib.hid hw1; have hRh := Lib.hid hR; have hokh := Lib.hid hokc; clear hw1 hR hc hpl htl hokc; have hB1 := (Below.refl w.heap.size w).alloc (Nat.le_refl _) (.cells #[.slice pa puts.length pc, .slice ta takes.length tc] 25); have A1 := Blk.new w [.slice pa puts.length pc, .slice ta takes.length tc] 25; have a0 := A1.at 0 rfl; have a1 := A1.at 1 rfl
  have hi := Lib.hid (show (WkT.mk (.slice pa puts.length pc) (.slice ta takes.length tc) puts takes).w.fromL x = if c = 0 then (takes.filter (fun r => r.q.toList == x.toList)).map Rf.id else [] by
    unfold Wk.fromL; rw [hokh.out]; by_cases h : c = 0
    · rw [decide_eq_true h, if_pos h, if_neg (by simp)]; rfl
    · rw [decide_eq_false h, if_neg h, if_pos rfl])
  by_cases hc0 : c = 0
  rotate_left 1
  · have hc1 : (c == 0) = false := beq_eq_false_iff_ne.2 hc0; go_enter Tryz.func30, Tryz.ntmps30; go_wp2_with (go_at_call 16; (with_reducible refine (hw1h.out _ hB1).mono ?_); rintro e w2 ⟨rfl, hB2⟩; have A2 := A1.pure hB2; have hT2 := hB1.trans (hB2.mono hB1.size)); go_ret; rw [hi.out, if_neg hc0]; exact ⟨_, rfl, Own.nil, hT2⟩
  subst hc0; rw [hi.out, if_pos rfl]; have h100 := Lib.hid (wk_len100 (t := WkT.mk (.slice pa puts.length pc) (.slice ta takes.length tc) puts takes) (by rw [hokh.out]; rfl)).2; clear hi; go_enter Tryz.func30, Tryz.ntmps30; go_upto_region 3 with (go_at_call 16; (with_reducible refine (hw1h.out _ hB1).mono ?_); rintro e w2 ⟨rfl, hB2⟩; have A2 := A1.pure hB2; have hT2 := hB1.trans (hB2.mono hB1.size); have b1 := A2.at 1 rfl); have R2 := hRh.out.pure hT2; have hs2 := Lib.hid hT2.size; clear hRh hB1 A1 hB2 hw1h a0 a1 A2 hokh; go_wp2; clear b1; go_loopw [5, 14] (fun s5 s14 wr => ∃ k : Nat, k ≤ takes.length ∧ s14 = .int .i64 k ∧ Below w2.heap.size w2 wr ∧ Own w2.heap.size 26 1 u64Enc wr s5 (((takes.take k).filter (fun r => r.q.toList == x.toList)).map Rf.id)) (fun _ s14 _ => takes.length - (intOf s14).toNat)
  case atStart => exact ⟨0, Nat.zero_le _, rfl, Below.refl _ _, by simp only [List.take_zero, List.filter_nil, List.map_nil]; exact Own.nil⟩
  case round =>
    obtain ⟨k, hk, rfl, hB, hO⟩ := hrel; by_cases hkt : k < takes.length
    · have hRr := R2.pure hB; have hSl : Slc rfEnc 2 wr (.slice ta takes.length tc) takes := hRr.s; obtain ⟨g, off, rfl⟩ := hSl.addrB hkt; obtain ⟨q, id, hx, c0, c1⟩ := rf_elem hSl hkt; have hst := filter_step (fun (p : Rf) => p.q.toList == x.toList) takes k hkt; rw [hx] at hst; dsimp only at hst; obtain ⟨F, hF⟩ : ∃ F, (takes.take k).filter (fun r => r.q.toList == x.toList) = F := ⟨_, rfl⟩
      have hFl : F.length ≤ k := by rw [← hF]; exact Nat.le_trans (List.length_filter_le _ _) (by rw [List.length_take]; omega)
      rw [hF] at hst hO; obtain ⟨b, hb⟩ : ∃ b, (q.toList == x.toList) = b := ⟨_, rfl⟩
      rw [hb] at hst; have hsth := Lib.hid hst; have hOh := Lib.hid hO; clear hst hF hx hSl hRr hO; have hB3 := hB.alloc hB.size (.cells #[.string q, .int .u64 id] 37); have hOa := hOh.out.alloc (.cells #[.string q, .int .u64 id] 37); have hFl2 := Lib.hid hFl; clear hFl; cases b
      · go_wp2; go_roundw
        case rel => exact ⟨k + 1, by omega, by go_num, hB3, by rw [hsth.out]; simpa using hOa⟩
        case measure => simp [intOf]; omega
      · have N := Blk.newE (wr.alloc (.cells #[.string q, .int .u64 id] 37)) [.int .u64 id] 26 (wr.heap.size + 1) (by simp); have hOb := hOa.alloc (.cells #[.int .u64 id] 26); have hB4 := hB3.alloc hB3.size (.cells #[.int .u64 id] 26); have hle := hB4.size; have hkk : k ≤ 9223372036854775807 := by omega
        go_wp2_with (at_builtin; refine wpList_app1 (base := w2.heap.size) rfl (.tmp 22) (.tmp 25) 70 26 rfl elem_u64W u64Enc_len u64Enc_one _ (F.map Rf.id) rfl hOb (wr.heap.size + 1) 1 id rfl (fun j v hv => (N.cell j).trans hv) (by have := hFl2.out; have := h100.out; simp; omega) (by have := hFl2.out; have := h100.out; unfold maxLen; simp; omega) (by simpa using hle) ?_; intro g' cap' w5 hO5 hg5 _); have hB5 := hB4.grown hg5 hle (fun k e => hOb.ge e); have hO6 := Lib.hid hO5; clear hO5 hOb hOa N; go_roundw
        case rel => exact ⟨k + 1, by omega, by go_num, hB5, by rw [hsth.out]; simpa using hO6.out⟩
        case measure => simp [intOf]; omega
    · obtain rfl : k = takes.length := by omega
      rw [List.take_length] at hO; go_wp2; go_ret; exact ⟨_, rfl, hO.rebase (fun k hk => Nat.le_trans hT2.size (hO.ge hk)), hT2.trans (hB.mono hT2.size)⟩
end Go.Proofs.YtlonokcaddpniaaGreatDoor
namespace Go.Proofs.YtlonokcaddpniaaGreatDoor
open Go.RowKit Go.Maps Go.ChangeMaps
def klS (x : ByteArray) : Lit := .string x.data.toList
def okS (x : ByteArray) : Prop := x.size ≤ maxLen
theorem klS_inj {x y : ByteArray} (h : klS x = klS y) : x = y := by
  unfold klS at h; injection h with h; cases x; cases y; congr 1; exact Array.toList_inj.1 h
theorem klS_toList (x : ByteArray) : klS x = .string x.toList := by unfold klS; rw [ByteArray.toList_eq]
theorem namesT : MapT Tryz.prog 93 9 3 (fun x : ByteArray => .string x) klS okS evN decN 0 where
  ht := Tryz.underlying93
  K := string_keyed Tryz.underlying9
  hkey := fun x hx => by
    unfold okS at hx; simp [keyOf, Tryz.underlying9, mapKey, klS, hx]
  inj := fun x y _ _ h => klS_inj h
  de := fun y => rfl
  ed := fun v y h => by
    unfold decN at h; split at h
    · injection h with h; subst h; rfl
    · cases h
  hz := fun w => by kernel_rfl
abbrev NamesM (w : World) (b : Nat) (h : ByteArray → Option Int) (cnt : Nat) : Prop := MapG Tryz.prog 9 klS okS decN w b h cnt
instance : DecidableEq ByteArray := fun a b => if h : a.toList = b.toList then .isTrue (toList_inj h) else .isFalse (fun e => h (by rw [e]))
def cntN (l : List ByteArray) (x : ByteArray) : Nat := l.countP (fun y => y.toList == x.toList)
theorem cntN_app (l : List ByteArray) (x y : ByteArray) : cntN (l ++ [x]) y = cntN l y + if x = y then 1 else 0 := by
  unfold cntN; rw [List.countP_append, List.countP_singleton]; congr 1; by_cases h : x = y
  · rw [if_pos h, if_pos (by rw [h]; simp)]
  · rw [if_neg h, if_neg (fun q => h ((same_iff _ _).1 q))]
theorem cntN_pos {l : List ByteArray} {x : ByteArray} : 0 < cntN l x ↔ x ∈ l := by
  unfold cntN; rw [List.countP_pos_iff]; exact ⟨fun ⟨a, h, e⟩ => by rw [← (same_iff _ _).1 e]; exact h, fun h => ⟨x, h, by simp⟩⟩
theorem cntN_le (l : List ByteArray) (x : ByteArray) : cntN l x ≤ l.length := by unfold cntN; exact List.countP_le_length
def nmH (L : List ByteArray) (x : ByteArray) : Option Int := if cntN L x = 0 then none else some (cntN L x)
theorem nm_get (L : List ByteArray) (x : ByteArray) : (nmH L x).getD 0 = cntN L x := by unfold nmH; split <;> simp_all
theorem nm_add (L : List ByteArray) (x i : ByteArray) : (if i = x then some ((cntN L x : Int) + 1) else nmH L i) = nmH (L ++ [x]) i := by
  unfold nmH; rw [cntN_app]; by_cases e : i = x
  · subst e; rw [if_pos rfl, if_pos rfl, if_neg (by omega)]; congr 1
  · have e2 : (if x = i then 1 else 0) = 0 := if_neg (fun q => e q.symm); rw [if_neg e, e2, Nat.add_zero]
theorem nm_some {L : List ByteArray} {x : ByteArray} : (nmH L x).isSome = true ↔ x ∈ L := by
  unfold nmH; rw [← cntN_pos]; by_cases h : cntN L x = 0
  · rw [if_pos h, h]; simp
  · rw [if_neg h]; simp; omega
/-- What maps.Keys and slices.Sorted do. -/
structure KsOk : Prop where
  keys : ∀ (mb : Nat) (W : World), Calls Tryz.prog 53 #[.map (some mb)] W fun e w' => e = .returned (.func (.func 70) #[] #[.pointer (some ⟨W.heap.size, 0, none⟩)]) ∧ w' = W.alloc (.cells #[.map (some mb)] 93)
  sorted : ∀ (b cnt : Nat) (h : ByteArray → Option Int) (L : List ByteArray) (w : World), NamesM w b h cnt → cnt < 1000000 → L.Pairwise (fun a b => a.toList < b.toList) → (∀ x ∈ L, okS x) → (∀ x, okS x → ((h x).isSome = true ↔ x ∈ L)) →
    Calls Tryz.prog 52 #[.func (.func 70) #[] #[.pointer (some ⟨w.heap.size, 0, none⟩)]] (w.alloc (.cells #[.map (some b)] 93)) fun e w' => ∃ v, e = .returned v ∧ Own w.heap.size 9 1 strEnc w' v L ∧ Below w.heap.size w w'
set_option maxRecDepth 100000 in
set_option maxHeartbeats 6400000 in
theorem wqueues_any (hCk : CkOk) (hKs : KsOk) (t : WkT) (P : Nat → Prop) (w : World) (hR : WkRd P w t) (hT : Tb w) : Calls Tryz.prog 25 #[t.arg] w fun e w' => ∃ v, e = .returned v ∧ Own w.heap.size 9 1 strEnc w' v t.w.queues ∧ Below w.heap.size w w' := by
  obtain ⟨c, hc⟩ : ∃ c, t.w.chk = c := ⟨_, rfl⟩
  obtain ⟨Q, hQ⟩ : ∃ Q, t.w.queues = Q := ⟨_, rfl⟩
  have hw1 := fun (u : World) (h : Below w.heap.size w u) => wcheck_any hCk t P u (hR.pure h) (hT.pure h)
  rw [hQ]; rw [hc] at hw1; obtain ⟨pa, pc, ta, tc, puts, takes, rfl, hpl, htl⟩ := wkrd_open hR; rw [WkT.arg_mk] at hw1 ⊢; have hpi : (puts.length : Int) ≤ 9223372036854775807 := by unfold maxLen at hpl; omega
  have hti : (takes.length : Int) ≤ 9223372036854775807 := by unfold maxLen at htl; omega
  have hw1h := Lib.hid hw1; have hRh := Lib.hid hR; have hch := Lib.hid hc; have hQh := Lib.hid hQ; clear hw1 hR hc hQ hpl htl; have hB1 := (Below.refl w.heap.size w).alloc (Nat.le_refl _) (.cells #[.slice pa puts.length pc, .slice ta takes.length tc] 25); have A1 := Blk.new w [.slice pa puts.length pc, .slice ta takes.length tc] 25; have a0 := A1.at 0 rfl; have a1 := A1.at 1 rfl; by_cases hc0 : c = 0
  rotate_left 1
  · have hc1 : (c != 0) = true := bne_iff_ne.2 hc0; go_enter Tryz.func25, Tryz.ntmps25; go_wp2_with (go_at_call 16; (with_reducible refine (hw1h.out _ hB1).mono ?_); rintro e w2 ⟨rfl, hB2⟩; have hT2 := hB1.trans (hB2.mono hB1.size)); go_ret; refine ⟨_, rfl, ?_, hT2⟩; rw [← hQh.out]; unfold Wk.queues; rw [if_pos (by rw [wk_okc, hch.out]; exact decide_eq_false hc0)]; exact Own.nil
  subst hc0; have hok0 : (WkT.mk (.slice pa puts.length pc) (.slice ta takes.length tc) puts takes).w.okB = true := by rw [wk_okc, hch.out]; rfl
  have hokk := (wk_okB _).1 hok0
  have hokp := Lib.hid (show ∀ p ∈ puts, okS p.q by
    intro p hp; have h := hokk.2.2.1 p.p (List.mem_map.2 ⟨p, hp, rfl⟩); unfold Pt.okB at h; simp only [Bool.and_eq_true] at h
    exact Nat.le_trans (qn_le h.1.1.1.1) (by unfold maxLen; omega))
  have hokt := Lib.hid (show ∀ r ∈ takes, okS r.q by
    intro r hr; have h := (hokk.2.2.2 r hr).1; unfold Rf.okB at h; simp only [Bool.and_eq_true] at h
    exact Nat.le_trans (qn_le h.1) (by unfold maxLen; omega))
  have hnl := Lib.hid (show puts.length ≤ 100 ∧ takes.length ≤ 100 by
    have h1 := hokk.1; have h2 := hokk.2.1; have h1 : (puts.map PtT.p).length ≤ 100 := h1; rw [List.length_map] at h1
    exact ⟨h1, h2⟩)
  have hokh := Lib.hid hok0; clear hok0 hokk; have hmm := @run_makeMap Tryz.prog; go_enter Tryz.func25, Tryz.ntmps25; go_upto_region 4 with (go_at_call 16; (with_reducible refine (hw1h.out _ hB1).mono ?_); rintro e w2 ⟨rfl, hB2⟩; have A2 := A1.pure hB2; have hT2 := hB1.trans (hB2.mono hB1.size)); have hB4 : Below w.heap.size w (w2.alloc (.map #[] 0)) := hT2.alloc hT2.size _; have A4 := A2.alloc (.map #[] 0); have M4 : NamesM (w2.alloc (.map #[] 0)) w2.heap.size (nmH ((puts.take 0).map PtT.q)) 0 := MapG.made w2; have hmb0 : w.heap.size + 1 ≤ w2.heap.size := by have := hB2.size; simp at this; omega
  obtain ⟨mb, hmbe⟩ : ∃ mb, w2.heap.size = mb := ⟨_, rfl⟩
  rw [hmbe] at M4 hmb0 ⊢; have hmb := Lib.hid hmb0; generalize w2.alloc (.map #[] 0) = w4 at hB4 A4 M4 ⊢; clear hmb0 hmbe A2 hT2 hB2 A1 hB1 a0 a1 hw1h; have b0 := A4.at 0 rfl; go_wp2; clear b0; go_loopw [15] (fun s15 wr => ∃ k cnt : Nat, k ≤ puts.length ∧ s15 = .int .i64 k ∧ Below w.heap.size w wr ∧ Blk wr w.heap.size [.slice pa puts.length pc, .slice ta takes.length tc] ∧ NamesM wr mb (nmH ((puts.take k).map PtT.q)) cnt ∧ cnt ≤ k) (fun s15 _ => puts.length - (intOf s15).toNat)
  case atStart => exact ⟨0, 0, Nat.zero_le _, rfl, hB4, A4, M4, Nat.le_refl _⟩
  case round =>
    obtain ⟨k, cnt, hk, rfl, hB, A, M, hc⟩ := hrel; clear hB4 A4 M4; by_cases hkt : k < puts.length
    · have hRr := hRh.out.pure hB; have hSl : Slc ptEnc 12 wr (.slice pa puts.length pc) puts := hRr.p; have hRd := hRr.r puts[k] (List.getElem_mem hkt); obtain ⟨g, off, rfl⟩ := hSl.addrB hkt; obtain ⟨q, id, key, dur, red, mid, uk, un, us, uka, ukc, ula, ulc, uks, ul, body, hx, c0, c1, c2, c3, c4, c5, c6, c7, c8, c9, c10, c11⟩ := pt_elem hSl hkt hRd
      have hqk : okS q := by
        have h := hokp.out _ (List.getElem_mem hkt); rw [hx] at h; exact h
      have hstep : ((puts.take (k + 1)).map PtT.q) = ((puts.take k).map PtT.q) ++ [q] := by
        rw [List.take_succ_eq_append_getElem hkt, List.map_append, hx]; rfl
      have hqkh := Lib.hid hqk; have hsth := Lib.hid hstep; obtain ⟨c, hcc⟩ : ∃ c : Nat, cntN ((puts.take k).map PtT.q) q = c := ⟨_, rfl⟩
      have hcl : c ≤ k := by rw [← hcc]; exact Nat.le_trans (cntN_le _ _) (by simp; omega)
      have hc200 : (c : Int) ≤ 200 := by have := hnl.out; omega
      have hcch := Lib.hid hcc; clear hcc hqk hstep hx hRd hSl hRr; have hBn := hB.alloc hB.size (.cells #[.string q, .int .u64 id, .string key, .bool dur, .bool red, .string mid, .int .u8 uk, .int .u64 un, .string us, .slice uka uks.length ukc, .slice ula ul.length ulc, .string body] 35); have An := A.alloc (.cells #[.string q, .int .u64 id, .string key, .bool dur, .bool red, .string mid, .int .u8 uk, .int .u64 un, .string us, .slice uka uks.length ukc, .slice ula ul.length ulc, .string body] 35); have Mn := M.alloc (.cells #[.string q, .int .u64 id, .string key, .bool dur, .bool red, .string mid, .int .u8 uk, .int .u64 un, .string us, .slice uka uks.length ukc, .slice ula ul.length ulc, .string body] 35); have hlook := Mn.look_run namesT hqkh.out; obtain ⟨w5, hput, M5, hg5⟩ := Mn.put_run namesT (by have := hnl.out; unfold maxLen; omega) hqkh.out ((c : Int) + 1); rw [nm_get, hcch.out] at hlook; unfold evN at hlook hput; have hgU : Upd (fun b => b = mb) (wr.alloc (.cells #[.string q, .int .u64 id, .string key, .bool dur, .bool red, .string mid, .int .u8 uk, .int .u64 un, .string us, .slice uka uks.length ukc, .slice ula ul.length ulc, .string body] 35)) w5 := Upd.grown (S := fun b => b = mb) hg5 (fun b hb => by injection hb with hb; exact hb.symm); have hB5 := hBn.trans (hgU.below hBn.size (fun b e => by have e : b = mb := e; have := hmb.out; omega)); have A5 := An.upd hgU (by show ¬ w.heap.size = mb; have := hmb.out; omega); have M6 : NamesM w5 mb (nmH ((puts.take (k + 1)).map PtT.q)) (if (nmH ((puts.take k).map PtT.q) q).isSome then cnt else cnt + 1) := M5.ext (fun x _ => by rw [hsth.out, ← nm_add, hcch.out]); have hc6 : (if (nmH ((puts.take k).map PtT.q) q).isSome then cnt else cnt + 1) ≤ (k + 1) := by split <;> omega
      have hBh := Lib.hid hB5; have Ah := Lib.hid A5; have Mh := Lib.hid M6; have hch := Lib.hid hc6; clear hBn An Mn M5 hg5 hgU hB5 A5 M6 hc6 hB A M hc; go_wp2; go_roundw
      case rel => exact ⟨k + 1, _, by omega, by go_num, hBh.out, Ah.out, Mh.out, hch.out⟩
      case measure => simp [intOf]; omega
    · obtain rfl : k = puts.length := by omega
      have hBs := Lib.hid hB; have As := Lib.hid A; have Ms := Lib.hid M; have hcs := Lib.hid hc; have b1 := A.at 1 rfl; rw [List.take_length] at Ms; go_wp2; clear b1 hB A M hc; obtain ⟨ws, rfl⟩ : ∃ ws, ws = wr := ⟨_, rfl⟩
      go_loopw [28] (fun s28 wr => ∃ k cnt : Nat, k ≤ takes.length ∧ s28 = .int .i64 k ∧ Below w.heap.size w wr ∧ Blk wr w.heap.size [.slice pa puts.length pc, .slice ta takes.length tc] ∧ NamesM wr mb (nmH (puts.map PtT.q ++ (takes.take k).map Rf.q)) cnt ∧ cnt ≤ puts.length + k) (fun s28 _ => takes.length - (intOf s28).toNat)
      case atStart => exact ⟨0, cnt, Nat.zero_le _, rfl, hBs.out, As.out, by simpa using Ms.out, hcs.out⟩
      case round =>
        obtain ⟨k, cnt, hk, rfl, hB, A, M, hc⟩ := hrel; clear hBs As Ms hcs; by_cases hkt : k < takes.length
        · have hRr := hRh.out.pure hB; have hSl : Slc rfEnc 2 wr (.slice ta takes.length tc) takes := hRr.s; obtain ⟨g, off, rfl⟩ := hSl.addrB hkt; obtain ⟨q, id, hx, c0, c1⟩ := rf_elem hSl hkt
          have hqk : okS q := by
            have h := hokt.out _ (List.getElem_mem hkt); rw [hx] at h; exact h
          have hstep : (puts.map PtT.q ++ (takes.take (k + 1)).map Rf.q) = (puts.map PtT.q ++ (takes.take k).map Rf.q) ++ [q] := by
            rw [List.take_succ_eq_append_getElem hkt, List.map_append, hx, ← List.append_assoc]; rfl
          have hqkh := Lib.hid hqk; have hsth := Lib.hid hstep; obtain ⟨c, hcc⟩ : ∃ c : Nat, cntN (puts.map PtT.q ++ (takes.take k).map Rf.q) q = c := ⟨_, rfl⟩
          have hcl : c ≤ puts.length + k := by rw [← hcc]; exact Nat.le_trans (cntN_le _ _) (by simp; omega)
          have hc200 : (c : Int) ≤ 200 := by have := hnl.out; omega
          have hcch := Lib.hid hcc; clear hcc hqk hstep hx  hSl hRr; have hBn := hB.alloc hB.size (.cells #[.string q, .int .u64 id] 37); have An := A.alloc (.cells #[.string q, .int .u64 id] 37); have Mn := M.alloc (.cells #[.string q, .int .u64 id] 37); have hlook := Mn.look_run namesT hqkh.out; obtain ⟨w5, hput, M5, hg5⟩ := Mn.put_run namesT (by have := hnl.out; unfold maxLen; omega) hqkh.out ((c : Int) + 1); rw [nm_get, hcch.out] at hlook; unfold evN at hlook hput; have hgU : Upd (fun b => b = mb) (wr.alloc (.cells #[.string q, .int .u64 id] 37)) w5 := Upd.grown (S := fun b => b = mb) hg5 (fun b hb => by injection hb with hb; exact hb.symm); have hB5 := hBn.trans (hgU.below hBn.size (fun b e => by have e : b = mb := e; have := hmb.out; omega)); have A5 := An.upd hgU (by show ¬ w.heap.size = mb; have := hmb.out; omega); have M6 : NamesM w5 mb (nmH (puts.map PtT.q ++ (takes.take (k + 1)).map Rf.q)) (if (nmH (puts.map PtT.q ++ (takes.take k).map Rf.q) q).isSome then cnt else cnt + 1) := M5.ext (fun x _ => by rw [hsth.out, ← nm_add, hcch.out]); have hc6 : (if (nmH (puts.map PtT.q ++ (takes.take k).map Rf.q) q).isSome then cnt else cnt + 1) ≤ puts.length + (k + 1) := by split <;> omega
          have hBh := Lib.hid hB5; have Ah := Lib.hid A5; have Mh := Lib.hid M6; have hch := Lib.hid hc6; clear hBn An Mn M5 hg5 hgU hB5 A5 M6 hc6 hB A M hc; go_wp2; go_roundw
          case rel => exact ⟨k + 1, _, by omega, by go_num, hBh.out, Ah.out, Mh.out, hch.out⟩
          case measure => simp [intOf]; omega
        · obtain rfl : k = takes.length := by omega
          rw [List.take_length] at M
          have hN : (WkT.mk (.slice pa puts.length pc) (.slice ta takes.length tc) puts takes).w.names = puts.map PtT.q ++ takes.map Rf.q := by
            show (puts.map PtT.p).map Pt.q ++ takes.map Rf.q = _
            rw [List.map_map]; rfl
          have hQe : Q = sortN (puts.map PtT.q ++ takes.map Rf.q) := by
            rw [← hQh.out]; unfold Wk.queues; rw [if_neg (by rw [hokh.out]; simp), hN]
          have hsorted := hKs.sorted mb cnt _ Q wr M (by have := hnl.out; omega) (by rw [hQe]; exact sortN_rises _) (fun x hx => by
            rw [hQe, mem_sortN] at hx; rcases List.mem_append.1 hx with h | h
            · obtain ⟨p, hp, rfl⟩ := List.mem_map.1 h; exact hokp.out p hp
            · obtain ⟨r, hr, rfl⟩ := List.mem_map.1 h; exact hokt.out r hr) (fun x _ => by rw [nm_some, hQe, mem_sortN])
          have hkeys := hKs.keys mb wr; have hsh := Lib.hid hsorted; have hkh := Lib.hid hkeys; clear hsorted hkeys hQe hN A M hc; go_wp2_with (first | (go_at_call 53; (with_reducible refine hkh.out.mono ?_); rintro e w6 ⟨rfl, rfl⟩) | (go_at_call 52; (with_reducible refine hsh.out.mono ?_); rintro e w7 ⟨v, rfl, hO, hB7⟩)); go_ret; exact ⟨v, rfl, hO.rebase (fun k hk => Nat.le_trans hB.size (hO.ge hk)), hB.trans (hB7.mono hB.size)⟩
end Go.Proofs.YtlonokcaddpniaaGreatDoor
namespace Go.Proofs.YtlonokcaddpniaaGreatDoor
open Go.RowKit Go.Maps Go.Sort Go.Shelf
def keysLay_ren : Go.Shelf.Ren := ⟨fun | 7 => 53 | 10 => 70 | n => n, fun | 23 => 93 | 26 => 9 | 3 => 3 | 28 => 96 | 0 => 0 | 27 => 95 | 33 => 91 | 4 => 4 | n => n, fun | n => n⟩
theorem keysLay : Go.Proofs.SlLaysZ.n7 Tryz.prog keysLay_ren := {
  mixed := by kernel_rfl
  f7 := ⟨Tryz.f53.name, by decide, Tryz.func53.trans (congrArg some (by kernel_rfl))⟩
  f10 := ⟨Tryz.f70.name, by decide, Tryz.func70.trans (congrArg some (by kernel_rfl))⟩
  t0 := Tryz.underlying0
  a0 := Tryz.isAgg0
  z0 := Tryz.sizeOf0
  v0 := Tryz.zeroValue0
  t4 := Tryz.underlying4
  a4 := Tryz.isAgg4
  z4 := Tryz.sizeOf4
  v4 := Tryz.zeroValue4
  t23 := Tryz.underlying93
  a23 := Tryz.isAgg93
  z23 := Tryz.sizeOf93
  v23 := Tryz.zeroValue93
  t26 := Tryz.underlying9
  a26 := Tryz.isAgg9
  z26 := Tryz.sizeOf9
  v26 := Tryz.zeroValue9
  t27 := Tryz.underlying95
  a27 := Tryz.isAgg95
  z27 := Tryz.sizeOf95
  v27 := Tryz.zeroValue95
  t28 := Tryz.underlying96
  a28 := Tryz.isAgg96
  z28 := Tryz.sizeOf96
  v28 := Tryz.zeroValue96
  t33 := Tryz.underlying91
  a33 := Tryz.isAgg91
  z33 := Tryz.sizeOf91
  v33 := Tryz.zeroValue91 }
def sortedLay_ren : Go.Shelf.Ren := ⟨fun | 6 => 52 | 8 => 68 | 9 => 69 | 11 => 98 | 13 => 100 | 12 => 99 | 23 => 130 | 24 => 131 | 14 => 121 | 15 => 122 | 16 => 123 | 17 => 124 | 18 => 125 | 19 => 126 | 20 => 127 | 21 => 128 | 22 => 129 | 25 => 141 | 26 => 142 | 27 => 143 | 28 => 144 | 29 => 145 | 30 => 146 | 31 => 154 | n => n, fun | 26 => 9 | 28 => 96 | 24 => 28 | 0 => 0 | 3 => 3 | 37 => 140 | 48 => 53 | 50 => 26 | 4 => 4 | 40 => 168 | 39 => 167 | 45 => 173 | 5 => 5 | 9 => 9 | 51 => 189 | 55 => 193 | 57 => 199 | 58 => 200 | 33 => 91 | n => n, fun | n => n⟩
theorem sortedLay : Go.Proofs.SlLaysZ.n6 Tryz.prog sortedLay_ren := {
  mixed := by kernel_rfl
  f6 := ⟨Tryz.f52.name, by decide, Tryz.func52.trans (congrArg some (by kernel_rfl))⟩
  f8 := ⟨Tryz.f68.name, by decide, Tryz.func68.trans (congrArg some (by kernel_rfl))⟩
  f11 := ⟨Tryz.f98.name, by decide, Tryz.func98.trans (congrArg some (by kernel_rfl))⟩
  t0 := Tryz.underlying0
  a0 := Tryz.isAgg0
  z0 := Tryz.sizeOf0
  v0 := Tryz.zeroValue0
  t24 := Tryz.underlying28
  a24 := Tryz.isAgg28
  z24 := Tryz.sizeOf28
  v24 := Tryz.zeroValue28
  t26 := Tryz.underlying9
  a26 := Tryz.isAgg9
  z26 := Tryz.sizeOf9
  v26 := Tryz.zeroValue9
  t28 := Tryz.underlying96
  a28 := Tryz.isAgg96
  z28 := Tryz.sizeOf96
  v28 := Tryz.zeroValue96
  i26 := by kernel_rfl }
def sortLay_ren : Go.Shelf.Ren := ⟨fun | 6 => 69 | 8 => 100 | 9 => 99 | 19 => 130 | 20 => 131 | 21 => 121 | 22 => 122 | 23 => 123 | 24 => 124 | 25 => 125 | 26 => 126 | 27 => 127 | 28 => 128 | 29 => 129 | 36 => 141 | 31 => 142 | 32 => 143 | 37 => 144 | 38 => 145 | 39 => 146 | 41 => 154 | n => n, fun | 27 => 28 | 29 => 9 | 3 => 3 | 32 => 140 | 26 => 28 | 0 => 0 | 44 => 53 | 46 => 26 | 4 => 4 | 36 => 168 | 35 => 167 | 41 => 173 | 5 => 5 | 9 => 9 | 53 => 189 | 57 => 193 | 63 => 199 | 64 => 200 | n => n, fun | n => n⟩
theorem sortLay : Go.Proofs.SlLaysM.n6 Tryz.prog sortLay_ren := {
  mixed := by kernel_rfl
  f6 := ⟨Tryz.f69.name, by decide, Tryz.func69.trans (congrArg some (by kernel_rfl))⟩
  f8 := Tryz.func100.trans (congrArg some (by kernel_rfl))
  f9 := ⟨Tryz.f99.name, by decide, Tryz.func99.trans (congrArg some (by kernel_rfl))⟩
  f19 := Tryz.func130.trans (congrArg some (by kernel_rfl))
  f20 := Tryz.func131.trans (congrArg some (by kernel_rfl))
  f21 := ⟨Tryz.f121.name, by decide, Tryz.func121.trans (congrArg some (by kernel_rfl))⟩
  f22 := ⟨Tryz.f122.name, by decide, Tryz.func122.trans (congrArg some (by kernel_rfl))⟩
  f23 := ⟨Tryz.f123.name, by decide, Tryz.func123.trans (congrArg some (by kernel_rfl))⟩
  f24 := ⟨Tryz.f124.name, by decide, Tryz.func124.trans (congrArg some (by kernel_rfl))⟩
  f25 := ⟨Tryz.f125.name, by decide, Tryz.func125.trans (congrArg some (by kernel_rfl))⟩
  f26 := ⟨Tryz.f126.name, by decide, Tryz.func126.trans (congrArg some (by kernel_rfl))⟩
  f27 := ⟨Tryz.f127.name, by decide, Tryz.func127.trans (congrArg some (by kernel_rfl))⟩
  f28 := ⟨Tryz.f128.name, by decide, Tryz.func128.trans (congrArg some (by kernel_rfl))⟩
  f29 := ⟨Tryz.f129.name, by decide, Tryz.func129.trans (congrArg some (by kernel_rfl))⟩
  f31 := Tryz.func142.trans (congrArg some (by kernel_rfl))
  f32 := Tryz.func143.trans (congrArg some (by kernel_rfl))
  f36 := ⟨Tryz.f141.name, by decide, Tryz.func141.trans (congrArg some (by kernel_rfl))⟩
  f37 := ⟨Tryz.f144.name, by decide, Tryz.func144.trans (congrArg some (by kernel_rfl))⟩
  f38 := ⟨Tryz.f145.name, by decide, Tryz.func145.trans (congrArg some (by kernel_rfl))⟩
  f39 := ⟨Tryz.f146.name, by decide, Tryz.func146.trans (congrArg some (by kernel_rfl))⟩
  f41 := ⟨Tryz.f154.name, by decide, Tryz.func154.trans (congrArg some (by kernel_rfl))⟩
  t0 := Tryz.underlying0
  a0 := Tryz.isAgg0
  z0 := Tryz.sizeOf0
  v0 := Tryz.zeroValue0
  t3 := Tryz.underlying3
  a3 := Tryz.isAgg3
  z3 := Tryz.sizeOf3
  v3 := Tryz.zeroValue3
  t4 := Tryz.underlying4
  a4 := Tryz.isAgg4
  z4 := Tryz.sizeOf4
  v4 := Tryz.zeroValue4
  t5 := Tryz.underlying5
  a5 := Tryz.isAgg5
  z5 := Tryz.sizeOf5
  v5 := Tryz.zeroValue5
  t9 := Tryz.underlying9
  a9 := Tryz.isAgg9
  z9 := Tryz.sizeOf9
  v9 := Tryz.zeroValue9
  t26 := Tryz.underlying28
  a26 := Tryz.isAgg28
  z26 := Tryz.sizeOf28
  v26 := Tryz.zeroValue28
  t27 := Tryz.underlying28
  a27 := Tryz.isAgg28
  z27 := Tryz.sizeOf28
  v27 := Tryz.zeroValue28
  t29 := Tryz.underlying9
  a29 := Tryz.isAgg9
  z29 := Tryz.sizeOf9
  v29 := Tryz.zeroValue9
  t32 := Tryz.underlying140
  a32 := Tryz.isAgg140
  z32 := Tryz.sizeOf140
  v32 := Tryz.zeroValue140
  t35 := Tryz.underlying167
  a35 := Tryz.isAgg167
  z35 := Tryz.sizeOf167
  v35 := Tryz.zeroValue167
  t36 := Tryz.underlying168
  a36 := Tryz.isAgg168
  z36 := Tryz.sizeOf168
  v36 := Tryz.zeroValue168
  t41 := Tryz.underlying173
  a41 := Tryz.isAgg173
  z41 := Tryz.sizeOf173
  v41 := Tryz.zeroValue173
  t44 := Tryz.underlying53
  a44 := Tryz.isAgg53
  z44 := Tryz.sizeOf53
  v44 := Tryz.zeroValue53
  t46 := Tryz.underlying26
  a46 := Tryz.isAgg26
  z46 := Tryz.sizeOf26
  v46 := Tryz.zeroValue26
  t53 := Tryz.underlying189
  a53 := Tryz.isAgg189
  z53 := Tryz.sizeOf189
  v53 := Tryz.zeroValue189
  t57 := Tryz.underlying193
  a57 := Tryz.isAgg193
  z57 := Tryz.sizeOf193
  v57 := Tryz.zeroValue193
  t63 := Tryz.underlying199
  a63 := Tryz.isAgg199
  z63 := Tryz.sizeOf199
  v63 := Tryz.zeroValue199
  t64 := Tryz.underlying200
  a64 := Tryz.isAgg200
  z64 := Tryz.sizeOf200
  v64 := Tryz.zeroValue200 }
theorem sorts41 (m : Nat) : AnyZ.SortsIn Tryz.prog sortedLay_ren Fence.wide m :=
  ⟨fun blk off cap ss W hH hblk hsz => callsIn_wide.2 (AnyM.slices_Sort_string sortLay blk off cap ss W hH hblk hsz),
   fun p cap W => callsIn_wide.2 (AnyM.slices_Sort_string_none sortLay p cap W)⟩
theorem keys_run (mb : Option Nat) (W : World) : CallsIn Fence.wide 5 Tryz.prog 53 #[.map mb] W fun e w' => e = .returned (.func (.func 70) #[] #[.pointer (some ⟨W.heap.size, 0, none⟩)]) ∧ w' = W.alloc (.cells #[.map mb] 93) :=
  AnyZ.keys_in keysLay Fence.wide 5 trivial rfl mb W
set_option maxHeartbeats 1000000 in
theorem sorted_run {H : Type} (b nn : Nat) (D0 : DataW H) (R : Value → Option (DataW H × List MemPlace)) (w : World) (hown : w.ownsMap Tryz.prog 9 R b nn D0) (hmax : Maps.size D0 ≤ maxLen) (hbytes : Maps.size D0 * 16 ≤ 140737488355328) :
    CallsIn Fence.wide 5 Tryz.prog 52 #[.func (.func 70) #[] #[.pointer (some ⟨w.heap.size, 0, none⟩)]] (w.alloc (.cells #[.map (some b)] 93)) fun e w' => ∃ (v : Value) (ss : List (List UInt8)), e = .returned v ∧ ss.Perm (strKeys D0) ∧
      w'.ownsRow (w.alloc (.cells #[.map (some b)] 93)).heap.size 9 1 v ss.length ((ss.mergeSort (fun x y => decide (x ≤ y))).map encStr) ∧ (v = .slice none 0 0 ↔ ss = []) ∧ Below (w.alloc (.cells #[.map (some b)] 93)).heap.size (w.alloc (.cells #[.map (some b)] 93)) w' := by
  have hbl := hown.lt
  have hseq : SeqGives Fence.wide 2 Tryz.prog 70 #[.pointer (some ⟨w.heap.size, 0, none⟩)] encStr (fun ss => ss.Perm (strKeys D0)) (Maps.size D0) (w.alloc (.cells #[.map (some b)] 93)) :=
    AnyZ.keys_gives (ρ := keysLay_ren) { keysLay with } Fence.wide _ trivial rfl (by omega) w.heap.size b nn D0 _ (by simp) (by simp) (by
      obtain ⟨es, clock, hb, Ft, hs, hD⟩ := hown
      exact ⟨es, clock, (Below.heap_alloc _ _ b hbl).trans hb, Ft, hs, hD⟩)
  exact AnyZ.sorted_in sortedLay Fence.wide 5 trivial trivial trivial trivial rfl (by omega) (sorts41 _) (enters_of Tryz.func69 (by kernel_rfl) rfl) 70 #[.pointer (some ⟨w.heap.size, 0, none⟩)] trivial (enters_of Tryz.func70 (by kernel_rfl) rfl) _ _ hmax hbytes _ hseq
end Go.Proofs.YtlonokcaddpniaaGreatDoor
namespace Go.Proofs.YtlonokcaddpniaaGreatDoor
open Go.RowKit Go.Maps
theorem keys_sorted {ε : Type} {dec : Value → Option ε} {w : World} {b n : Nat} {D : DataW ε} {L : List ByteArray} (hown : w.ownsMap Tryz.prog 9 (decR dec) b n D) (hr : L.Pairwise (fun a b => a.toList < b.toList)) (hf : ∀ x ∈ L, okS x)
    (hD : ∀ x, okS x → (Maps.has D (klS x) = true ↔ x ∈ L)) {ss : List (List UInt8)} (hs : ss.Perm (strKeys D)) : ss.mergeSort (fun x y => decide (x ≤ y)) = L.map ByteArray.toList := by
  have hk : Tryz.prog.underlying 9 = some .string := Tryz.underlying9; have hso : (L.map ByteArray.toList).Pairwise (fun x y => x < y) := List.pairwise_map.2 hr; have hnd : (L.map ByteArray.toList).Nodup := hso.imp (fun {a b} h e => by rw [e] at h; exact List.lt_irrefl _ h)
  have hC : Collected D (fun _ => false) (L.map ByteArray.toList) := by
    refine ⟨hnd, fun x => ?_⟩; have key : ∀ y : ByteArray, okS y → (Maps.has D (.string y.toList) = true ↔ y ∈ L) := fun y hy => by rw [← klS_toList, hD y hy]
    simp only [and_true, List.mem_map]; constructor
    · rintro ⟨f, hfm, rfl⟩; exact (key f (hf f hfm)).2 hfm
    · intro hh
      have hx : x.length ≤ maxLen := by
        obtain ⟨es, rfl, -, -⟩ := hown.entries (string_keyed hk); rw [has_eq, List.any_eq_true] at hh; obtain ⟨p, hp, hpk⟩ := hh
        have hpx : p.1 = .string x := by
          rcases Classical.em (p.1 = .string x) with e | e
          · exact e
          · rw [sameKey_ne e] at hpk; cases hpk
        refine strKeys_le hown hk x ?_; show x ∈ es.map fun p => strOf p.1
        exact List.mem_map.2 ⟨p, hp, by rw [hpx]; rfl⟩
      have hy : (ByteArray.mk x.toArray).toList = x := ByteArray.toList_mk x; exact ⟨⟨x.toArray⟩, (key ⟨x.toArray⟩ (by unfold okS; show x.toArray.size ≤ maxLen; simpa using hx)).1 (by rw [hy]; exact hh), hy⟩
  have hp := hC.perm hown (string_keyed hk) hk (fun _ => rfl); rw [mergeSort_of_perm (hs.trans hp.symm)]; refine List.mergeSort_of_pairwise (hso.imp (fun {a b} h => ?_)); simp only [leB, decide_eq_true_eq]; exact List.le_of_lt h
theorem keys_cells (L : List ByteArray) : (L.map ByteArray.toList).map encStr = L.flatMap strEnc := by
  induction L with
  | nil => rfl
  | cons f L ih =>
    simp only [List.map_cons, List.flatMap_cons, ih]; have : encStr f.toList = .string f := by unfold encStr; congr 1; exact toList_inj (ByteArray.toList_mk _)
    rw [this]; rfl
theorem ks_ok : KsOk where
  keys := fun mb W => (callsIn_wide (n := 5)).1 (keys_run (some mb) W)
  sorted := fun b cnt h L w hM hc hr hf hi => by
    obtain ⟨D, hown, hsz, hD⟩ := hM; have hsorted := (callsIn_wide (n := 5)).1 (sorted_run b _ D (decR decN) w hown (by rw [hsz]; unfold maxLen; omega) (by rw [hsz]; omega)); refine hsorted.mono ?_; rintro e w2 ⟨v, ss, rfl, hS, hrow, hnil, hb⟩; have e1 : (w.alloc (.cells #[.map (some b)] 93)).heap.size = w.heap.size + 1 := by simp
    have hks := keys_sorted hown hr hf (fun x hx => by rw [(hD x hx).1]; exact hi x hx) hS
    have hl : ss.length = L.length := by
      have := congrArg List.length hks; rw [List.length_mergeSort] at this
      simpa using this
    rw [hks, hl, keys_cells] at hrow; have ho2 : Own (w.heap.size + 1) 9 1 strEnc w2 v L := by rw [← e1]; exact hrow
    exact ⟨v, rfl, ho2.rebase (fun k hk => by have := ho2.ge hk; omega), ((Below.refl _ w).alloc (Nat.le_refl _) _).trans (hb.mono (by simp))⟩
end Go.Proofs.YtlonokcaddpniaaGreatDoor
