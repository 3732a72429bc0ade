/- Acts of the laws; 'does' whatever the act is; DiskPlays. Conditions: as each says. Written by gen_dlC.py. -/
import Derived.Test.YtgpdbifgbabnnaaDlA
import Derived.Test.YtgpdbifgbabnnaaDlB
import Derived.Test.YtgpdbifgbabnnaaDkY
namespace Go.Proofs.Ytgpdbifgbabnnaa
open Go.RowKit
set_option linter.unusedVariables false
set_option linter.unusedSimpArgs false
structure Ac where
  w : Int
  n : ByteArray
  t : ByteArray
  i : Int
  k : Value
def acEnc (x : Ac) : List Value := [.int .u8 x.w, .string x.n, .string x.t, .int .i64 x.i, x.k]
theorem acEnc_len (x : Ac) : (acEnc x).length = 5 := rfl
structure AcOk (w : World) (x : Ac) : Prop where
  wh : 0 ≤ x.w ∧ x.w ≤ 255
  ii : -9223372036854775808 ≤ x.i ∧ x.i ≤ 9223372036854775807
  kp : ∃ K, Slc (intEnc .i64) 1 w x.k K
def stp (c : Int) (s : DS) (nm to : ByteArray) (n : Int) (K : List Int) : DS :=
  if c = 0 then (apD s nm to).1 else if c = 1 then (syD s nm).1 else if c = 2 then (cuD s nm n).1 else if c = 3 then (reD s nm to).1 else if c = 4 then (rmD s nm).1 else if c = 5 then s else if c = 6 then fuD s n else if c = 7 then crD s else waD s K
theorem stp_ok {c : Int} {s : DS} {nm to : ByteArray} {n : Int} {K : List Int} (h : DOk s) (hn : n ≤ 9223372036854775807) : DOk (stp c s nm to n K) := by
  unfold stp
  repeat' split
  · exact ap_ok h
  · exact sy_ok h
  · exact cu_ok h
  · exact re_ok h
  · exact rm_ok h
  · exact h
  · exact fu_ok h (by omega)
  · exact cr_ok h
  · exact wa_ok h
theorem stp_len {c : Int} {s : DS} {nm to : ByteArray} {n : Int} {K : List Int} {k : Nat} (h : DOk s) (hl : s.L.length ≤ k) : (stp c s nm to n K).L.length ≤ k + 1 := by
  unfold stp
  repeat' split
  · exact ap_len hl
  · exact Nat.le_succ_of_le (sy_len h hl)
  · exact Nat.le_succ_of_le (cu_len h hl)
  · exact Nat.le_succ_of_le (re_len h hl)
  · exact Nat.le_succ_of_le (rm_len h hl)
  · omega
  · rw [fu_len]; omega
  · show s.L.length ≤ k + 1; omega
  · rw [wa_len]; omega
theorem apD_room (s : DS) (x b : ByteArray) : (apD s x b).1.room = s.room := by
  unfold apD; repeat' split
  all_goals first | rfl | (unfold burnE; split <;> rfl)
theorem syD_room (s : DS) (x : ByteArray) : (syD s x).1.room = s.room := by
  unfold syD; repeat' split
  all_goals first | rfl | (unfold burnE; split <;> rfl)
theorem cuD_room (s : DS) (x : ByteArray) (n : Int) : (cuD s x n).1.room = s.room := by
  unfold cuD; repeat' split
  all_goals first | rfl | (unfold burnE; split <;> rfl)
theorem reD_room (s : DS) (x y : ByteArray) : (reD s x y).1.room = s.room := by
  unfold reD; repeat' split
  all_goals first | rfl | (unfold burnE; split <;> rfl)
theorem rmD_room (s : DS) (x : ByteArray) : (rmD s x).1.room = s.room := by
  unfold rmD; repeat' split
  all_goals first | rfl | (unfold burnE; split <;> rfl)
theorem stp_room (c : Int) (s : DS) (nm to : ByteArray) (n : Int) (K : List Int) : (stp c s nm to n K).room = s.room := by
  unfold stp
  repeat' split
  · exact apD_room ..
  · exact syD_room ..
  · exact cuD_room ..
  · exact reD_room ..
  · exact rmD_room ..
  · rfl
  · unfold fuD; split <;> rfl
  · rfl
  · unfold waD; split <;> rfl

theorem does_any (hLi : ListOk) {X : Nat → Prop} {base : Nat} (w : World) (d b q : Nat) (s t : DS) (wh n : Int) (nm to : ByteArray) (ka : Option Addr) (kc : Nat) (K : List Int) (h : Pr X base w d b q s t) (hs : DOk s) (ht : DOk t) (ls : s.L.length < 900000) (lt : t.L.length < 900000)
    (wh0 : 0 ≤ wh) (wh1 : wh ≤ 255) (hn1 : nm.size ≤ 100) (hn2 : to.size ≤ 2000) (hn : -9223372036854775808 ≤ n ∧ n ≤ 9223372036854775807) (hK : Slc (intEnc .i64) 1 w (.slice ka K.length kc) K) (hKb : K.length ≠ 0 → ∀ k, (Value.slice ka K.length kc).ownBlock = some k → k < base) :
    Calls Try.prog 12 #[.pointer (some ⟨d, 0, none⟩), .pointer (some ⟨q, 0, none⟩), .agg #[.int .u8 wh, .string nm, .string to, .int .i64 n, .slice ka K.length kc]] w fun e w' => ∃ r, e = .returned (.bool r) ∧ (s = t → r = true) ∧ Pr X base w' d b q (stp (wh % 9) s nm to n K) (stp (wh % 9) t nm to n K) ∧ KX X base w w' := by
  have h9 : wh % 9 = 0 ∨ wh % 9 = 1 ∨ wh % 9 = 2 ∨ wh % 9 = 3 ∨ wh % 9 = 4 ∨ wh % 9 = 5 ∨ wh % 9 = 6 ∨ wh % 9 = 7 ∨ wh % 9 = 8 := by omega
  rcases h9 with e | e | e | e | e | e | e | e | e
  · rw [e]; exact does_0 hLi w d b q s t wh n nm to ka kc K h hs ht ls lt e wh0 wh1 hn1 hn2 hn hK hKb
  · rw [e]; exact does_1 hLi w d b q s t wh n nm to ka kc K h hs ht ls lt e wh0 wh1 hn1 hn2 hn hK hKb
  · rw [e]; exact does_2 hLi w d b q s t wh n nm to ka kc K h hs ht ls lt e wh0 wh1 hn1 hn2 hn hK hKb
  · rw [e]; exact does_3 hLi w d b q s t wh n nm to ka kc K h hs ht ls lt e wh0 wh1 hn1 hn2 hn hK hKb
  · rw [e]; exact does_4 hLi w d b q s t wh n nm to ka kc K h hs ht ls lt e wh0 wh1 hn1 hn2 hn hK hKb
  · rw [e]; exact does_5 hLi w d b q s t wh n nm to ka kc K h hs ht ls lt e wh0 wh1 hn1 hn2 hn hK hKb
  · rw [e]; exact does_6 hLi w d b q s t wh n nm to ka kc K h hs ht ls lt e wh0 wh1 hn1 hn2 hn hK hKb
  · rw [e]; exact does_7 hLi w d b q s t wh n nm to ka kc K h hs ht ls lt e wh0 wh1 hn1 hn2 hn hK hKb
  · rw [e]; exact does_8 hLi w d b q s t wh n nm to ka kc K h hs ht ls lt e wh0 wh1 hn1 hn2 hn hK hKb
/-- Both disks made. -/
theorem Pr.start {w w1 w2 : World} {s t : DS} (B1 : Below w.heap.size w w1) (hD : Disk w1 (w.heap.size + 1) w.heap.size s) (B2 : Below w1.heap.size w1 w2) (hQ : DD w2 w1.heap.size (.slice none 0 0) t) : Pr (fun _ => False) w.heap.size w2 (w.heap.size + 1) w.heap.size w1.heap.size s t := by
  have h1 := hD.lt
  have h2 := B1.size
  refine ⟨_, hD.pure B2, hQ, ⟨by omega, Nat.le_refl _, h2, fun k hk => by cases hk⟩, fun k hk hd => ?_, fun k hk => hk.elim⟩
  rcases hk with rfl | hk
  · rcases hd with e | e <;> omega
  · cases hk
theorem Pr.callS (hLi : ListOk) {X : Nat → Prop} {base : Nat} {w : World} {d b q : Nat} {s : DS} (h : Pr X base w d b q s s) (ho : DOk s) (hl : s.L.length < 900000) :
    Calls Try.prog 13 #[.pointer (some ⟨d, 0, none⟩), .pointer (some ⟨q, 0, none⟩)] w fun e w' => e = .returned (.bool true) ∧ Pr X base w' d b q s s ∧ KX X base w w' := by
  have h' := h
  obtain ⟨v, h1, h2, -⟩ := h
  exact (same_any hLi w d b q v s h1 h2 ho hl).mono fun e w' ⟨g1, g2⟩ => ⟨g1, h'.pure g2⟩
theorem maxI_room {n : Int} (h : n ≤ 9223372036854775807) : DOk ⟨[], maxI n 0, 0, false⟩ := DOk.new (by have := maxI_ge n 0; omega) (by have := maxI_ge n 0; omega)

theorem ints_low {w : World} {v : Value} {K : List Int} (h : Slc (intEnc .i64) 1 w v K) (h0 : K.length ≠ 0) : ∀ k, v.ownBlock = some k → k < w.heap.size := fun k hk => by
  obtain ⟨g, off, cap, rfl, hc⟩ := h.atd 0 (by omega)
  have h1 := World.block_lt_of_cell? w _ (hc 0 _ rfl)
  have e : g = k := by simpa [Value.ownBlock] using hk
  rw [← e]; exact h1
/-- An act's cells. -/
theorem act_cells {w : World} {g off : Nat} {k : Nat} {x : Ac} {wr : World} (hc : ∀ j u, (acEnc x)[j]? = some u → w.cell? ⟨g, off + k * 5 + j, none⟩ = some u) (hB : Below w.heap.size w wr) :
    wr.cell? ⟨g, off + k * 5, none⟩ = some (.int .u8 x.w) ∧ wr.cell? ⟨g, off + k * 5 + 1, none⟩ = some (.string x.n) ∧ wr.cell? ⟨g, off + k * 5 + 2, none⟩ = some (.string x.t) ∧ wr.cell? ⟨g, off + k * 5 + 3, none⟩ = some (.int .i64 x.i) ∧ wr.cell? ⟨g, off + k * 5 + 4, none⟩ = some x.k := by
  have f : ∀ j u, (acEnc x)[j]? = some u → wr.cell? ⟨g, off + k * 5 + j, none⟩ = some u := fun j u hu => (hB.cell (World.block_lt_of_cell? w _ (hc j u hu))).trans (hc j u hu)
  exact ⟨f 0 _ rfl, f 1 _ rfl, f 2 _ rfl, f 3 _ rfl, f 4 _ rfl⟩

set_option maxRecDepth 100000 in
set_option maxHeartbeats 12800000 in
theorem plays_any (hLi : ListOk) (w : World) (room : Int) (v : Value) (C : List Ac) (hr : room ≤ 9223372036854775807) (hS : Slc acEnc 5 w v C) (hC : ∀ x ∈ C, AcOk w x) :
    Calls Try.prog 3 #[.int .i64 room, v] w fun e w' => e = .returned (.bool true) ∧ Below w.heap.size w w' := by
  obtain ⟨va, vc, rfl, hm⟩ := hS.len
  have hS' := Lib.hid hS; clear hS
  have hC' := hC; clear hC
  have hhead := head_any hLi
  have hhead' := Lib.hid hhead; clear hhead
  have ho0 := maxI_room hr
  have hLi' := Lib.hid hLi; clear hLi
  have hnew := new_any w room
  unfold maxLen at hm
  go_enter Try.func3, Try.ntmps3
  go_wp2_with (first
    | (go_at_call 8; (with_reducible refine hnew.mono ?_); clear hnew; rintro e w1 ⟨rfl, B1, D1⟩)
    | (go_at_call 9; (with_reducible refine (dnew_any w1 room).mono ?_); rintro e w2 ⟨rfl, B2, Q2⟩; have P2 := Pr.start B1 D1 B2 Q2; have A2 := B1.trans (B2.mono B1.size); clear D1 Q2))
  have P2' := Lib.hid P2; clear P2
  have A2' := Lib.hid A2; clear A2
  go_loopw [7] (fun s7 wr => ∃ (k : Nat) (s : DS), k ≤ C.length ∧ k ≤ 60 ∧ s7 = .int .i64 k ∧ DOk s ∧ s.L.length ≤ k ∧ Pr (fun _ => False) w.heap.size wr (w.heap.size + 1) w.heap.size w1.heap.size s s ∧ Below w.heap.size w wr) (fun s7 _ => C.length - (intOf s7).toNat)
  case atStart => exact ⟨0, _, by omega, by omega, rfl, ho0, by simp, P2'.out, A2'.out⟩
  case round =>
    obtain ⟨k, s, hk, hk6, rfl, ho, hl, hP, hB⟩ := hrel
    have hend : Calls Try.prog 11 #[] wr fun e w' => e = .returned (.bool true) ∧ Below w.heap.size w w' := (hhead'.out wr).mono fun e w' ⟨h1, h2⟩ => ⟨h1, hB.trans (h2.mono hB.size)⟩
    by_cases hlt : k < C.length
    · by_cases h6 : k < 60
      · obtain ⟨x, hx⟩ : ∃ x, x = C[k] := ⟨_, rfl⟩
        have hox : AcOk w x := by rw [hx]; exact hC' _ (List.getElem_mem hlt)
        obtain ⟨K, hK⟩ := hox.kp
        obtain ⟨ka, kc, hkv, -⟩ := hK.len
        obtain ⟨g, off, cap, ev, hc⟩ := hS'.out.atd k hlt
        rw [← hx] at hc
        obtain ⟨xw, xn, xt, xi, xk⟩ := x
        simp only at hkv hK hox
        subst hkv
        have hcs := fun u (hu : Below w.heap.size w u) => act_cells hc hu
        simp only [Value.slice.injEq, and_true, true_and] at ev
        obtain ⟨rfl, rfl⟩ := ev
        simp only at hcs
        obtain ⟨c0, c1, c2, c3, c4⟩ := hcs wr hB
        have hcs' := Lib.hid hcs; clear hcs
        have hw := hox.wh; have hi := hox.ii
        simp only at hw hi
        obtain ⟨hw0, hw1⟩ := hw
        have hKl := fun h0 => ints_low hK h0
        have hKr : ∀ u, Below w.heap.size w u → Slc (intEnc .i64) 1 u (.slice ka K.length kc) K := fun u hu => hK.low hu hKl
        clear hc hx hox
        have hg := great_any wr xw xi xn xt ka kc K.length
        by_cases hG : xn.size ≤ 100 ∧ xt.size ≤ 2000 ∧ K.length ≤ 100
        · rw [decide_eq_false (fun h => h hG)] at hg
          obtain ⟨hG1, hG2, hG3⟩ := hG
          have hgo : Calls Try.prog 10 #[.agg #[.int .u8 xw, .string xn, .string xt, .int .i64 xi, .slice ka K.length kc]] wr fun e w' => e = .returned (.bool false) ∧ Pr (fun _ => False) w.heap.size w' (w.heap.size + 1) w.heap.size w1.heap.size s s ∧ Below w.heap.size w w' := hg.mono fun e w' ⟨g1, g2⟩ => ⟨g1, (hP.pure g2).1, hB.trans (hP.pure g2).2.1⟩
          have hdo := fun u (hu : Pr (fun _ => False) w.heap.size u (w.heap.size + 1) w.heap.size w1.heap.size s s) (hb : Below w.heap.size w u) => does_any hLi'.out u (w.heap.size + 1) w.heap.size w1.heap.size s s xw xi xn xt ka kc K hu ho ho (by omega) (by omega) hw0 hw1 hG1 hG2 hi (hKr u hb) hKl
          have hsa := fun u (hu : Pr (fun _ => False) w.heap.size u (w.heap.size + 1) w.heap.size w1.heap.size (stp (xw % 9) s xn xt xi K) (stp (xw % 9) s xn xt xi K)) => Pr.callS hLi'.out hu (stp_ok (K := K) ho hi.2) (by have := stp_len (c := xw % 9) (nm := xn) (to := xt) (n := xi) (K := K) ho hl; omega)
          have hso := stp_ok (c := xw % 9) (nm := xn) (to := xt) (n := xi) (K := K) ho hi.2
          have hsl := stp_len (c := xw % 9) (nm := xn) (to := xt) (n := xi) (K := K) ho hl
          have hdo' := Lib.hid hdo; have hsa' := Lib.hid hsa; clear hdo hsa
          have hso' := Lib.hid hso; have hsl' := Lib.hid hsl; clear hso hsl
          clear hg hend hP ho
          go_wp2_with (first
            | (go_at_call 10; (with_reducible refine hgo.mono ?_); clear hgo; rintro e w3 ⟨rfl, P3, B3⟩; obtain ⟨e0, e1, e2, e3, e4⟩ := hcs'.out w3 B3)
            | (go_at_call 12; (with_reducible refine (hdo'.out w3 P3 B3).mono ?_); rintro e w4 ⟨r, rfl, hr4, P4, K4⟩; obtain rfl : r = true := (by simpa using hr4); have B4 := B3.trans K4.1)
            | (go_at_call 13; (with_reducible refine (hsa'.out w4 P4).mono ?_); rintro e w5 ⟨rfl, P5, K5⟩))
          have B5 := B4.trans K5.1
          go_roundw
          case rel => exact ⟨k + 1, _, by omega, by omega, by go_num, hso'.out, hsl'.out, P5, B5⟩
          case measure => simp [intOf]; omega
        · rw [decide_eq_true hG] at hg
          have hgo : Calls Try.prog 10 #[.agg #[.int .u8 xw, .string xn, .string xt, .int .i64 xi, .slice ka K.length kc]] wr fun e w' => e = .returned (.bool true) ∧ Below w.heap.size w w' := hg.mono fun e w' ⟨g1, g2⟩ => ⟨g1, hB.trans (hP.pure g2).2.1⟩
          clear hg hend hP ho
          go_wp2_with (first
            | (go_at_call 10; (with_reducible refine hgo.mono ?_); clear hgo; rintro e w3 ⟨rfl, B3⟩)
            | (go_at_call 11; (with_reducible refine (hhead'.out w3).mono ?_); rintro e w4 ⟨rfl, B4⟩))
          go_ret
          exact ⟨rfl, B3.trans (B4.mono B3.size)⟩
      · go_wp2_with (go_at_call 11; (with_reducible refine hend.mono ?_); clear hend; rintro e w9 ⟨rfl, B9⟩)
        go_ret
        exact ⟨rfl, B9⟩
    · go_wp2_with (go_at_call 11; (with_reducible refine hend.mono ?_); clear hend; rintro e w9 ⟨rfl, B9⟩)
      go_ret
      exact ⟨rfl, B9⟩
end Go.Proofs.Ytgpdbifgbabnnaa
