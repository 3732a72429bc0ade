/- DiskRoom. Conditions: the argument reads as a row of acts. Written by gen_dlD.py. -/
import Derived.Test.YtgpdbifgbabnnaaDlC
namespace Go.Proofs.Ytgpdbifgbabnnaa
open Go.RowKit
set_option linter.unusedVariables false
set_option linter.unusedSimpArgs false
theorem Pr.disk {X : Nat → Prop} {base : Nat} {w : World} {d b q : Nat} {s t : DS} (h : Pr X base w d b q s t) : Disk w d b s := by obtain ⟨v, h1, -⟩ := h; exact h1
/-- 'does', what it leaves being named. -/
theorem does_ex (hLi : ListOk) {X : Nat → Prop} {base : Nat} (w : World) (d b q : Nat) (s t : DS) (wh n : Int) (nm to : ByteArray) (ka : Option Addr) (kc : Nat) (K : List Int) (k : Nat) (h : Pr X base w d b q s t) (hs : DOk s) (ht : DOk t) (ls : s.L.length ≤ k) (lt : t.L.length ≤ k) (hk : k < 900000)
    (wh0 : 0 ≤ wh) (wh1 : wh ≤ 255) (hn1 : nm.size ≤ 100) (hn2 : to.size ≤ 2000) (hn : -9223372036854775808 ≤ n ∧ n ≤ 9223372036854775807) (hK : Slc (intEnc .i64) 1 w (.slice ka K.length kc) K) (hKb : K.length ≠ 0 → ∀ k, (Value.slice ka K.length kc).ownBlock = some k → k < base) :
    Calls Try.prog 12 #[.pointer (some ⟨d, 0, none⟩), .pointer (some ⟨q, 0, none⟩), .agg #[.int .u8 wh, .string nm, .string to, .int .i64 n, .slice ka K.length kc]] w fun e w' => ∃ r S T, e = .returned (.bool r) ∧ DOk S ∧ DOk T ∧ S.L.length ≤ k + 1 ∧ T.L.length ≤ k + 1 ∧ S.room = s.room ∧ Pr X base w' d b q S T ∧ KX X base w w' :=
  (does_any hLi w d b q s t wh n nm to ka kc K h hs ht (by omega) (by omega) wh0 wh1 hn1 hn2 hn hK hKb).mono fun e w' ⟨r, g1, g2, g3, g4⟩ => ⟨r, _, _, g1, stp_ok hs hn.2, stp_ok ht hn.2, stp_len hs ls, stp_len ht lt, stp_room .., g3, g4⟩

set_option maxRecDepth 100000 in
set_option maxHeartbeats 12800000 in
theorem room_any (hLi : ListOk) (w : World) (room : Int) (v : Value) (C : List Ac) (hr : room ≤ 9223372036854775807) (hS : Slc acEnc 5 w v C) (hC : ∀ x ∈ C, AcOk w x) :
    Calls Try.prog 4 #[.int .i64 room, v] w fun e w' => e = .returned (.bool true) ∧ Below w.heap.size w w' := by
  obtain ⟨va, vc, rfl, hm⟩ := hS.len
  have hS' := Lib.hid hS; clear hS
  have hC' := hC; clear hC
  have hhead := head_any hLi
  have hhead' := Lib.hid hhead; clear hhead
  have ho0 := maxI_room hr
  have hLi' := Lib.hid hLi; clear hLi
  have hnew := new_any w room
  obtain ⟨R, hR⟩ : ∃ R, R = maxI room 0 := ⟨_, rfl⟩
  have hmx : (if room < 0 then (0 : Int) else room) = R := by rw [hR]; unfold maxI; split <;> split <;> omega
  have hmx' := Lib.hid hmx; clear hmx
  rw [← hR] at hnew ho0
  clear hR
  unfold maxLen at hm
  go_enter Try.func4, Try.ntmps4
  go_wp2_with (first
    | (go_at_call 8; (with_reducible refine hnew.mono ?_); clear hnew; rintro e w1 ⟨rfl, B1, D1⟩)
    | (go_at_call 9; (with_reducible refine (dnew_any w1 0).mono ?_); rintro e w2 ⟨rfl, B2, Q2⟩; have P2 := Pr.start B1 D1 B2 Q2; have A2 := B1.trans (B2.mono B1.size); clear D1 Q2))
  have P2' := Lib.hid P2; clear P2
  have A2' := Lib.hid A2; clear A2
  have ho1 : DOk ⟨[], maxI 0 0, 0, false⟩ := maxI_room (by omega)
  have ho1' := Lib.hid ho1; clear ho1
  go_loopw [7] (fun s7 wr => ∃ (k : Nat) (s t : DS), k ≤ C.length ∧ k ≤ 40 ∧ s7 = .int .i64 k ∧ DOk s ∧ DOk t ∧ s.L.length ≤ k ∧ t.L.length ≤ k ∧ s.room = R ∧ Pr (fun _ => False) w.heap.size wr (w.heap.size + 1) w.heap.size w1.heap.size s t ∧ Below w.heap.size w wr) (fun s7 _ => C.length - (intOf s7).toNat)
  case atStart => exact ⟨0, _, _, by omega, by omega, rfl, ho0, ho1'.out, by simp, by simp, rfl, P2'.out, A2'.out⟩
  case round =>
    obtain ⟨k, s, t, hk, hk6, rfl, ho, hot, hl, hlt2, hro, hP, hB⟩ := hrel
    have hend : Calls Try.prog 11 #[] wr fun e w' => e = .returned (.bool true) ∧ Below w.heap.size w w' := (hhead'.out wr).mono fun e w' ⟨h1, h2⟩ => ⟨h1, hB.trans (h2.mono hB.size)⟩
    by_cases hlt : k < C.length
    · by_cases h6 : k < 40
      · obtain ⟨x, hx⟩ : ∃ x, x = C[k] := ⟨_, rfl⟩
        have hox : AcOk w x := by rw [hx]; exact hC' _ (List.getElem_mem hlt)
        obtain ⟨K, hK⟩ := hox.kp
        obtain ⟨ka, kc, hkv, -⟩ := hK.len
        obtain ⟨g, off, cap, ev, hc⟩ := hS'.out.atd k hlt
        rw [← hx] at hc
        obtain ⟨xw, xn, xt, xi, xk⟩ := x
        simp only at hkv hK hox
        subst hkv
        have hcs := fun u (hu : Below w.heap.size w u) => act_cells hc hu
        simp only [Value.slice.injEq, and_true, true_and] at ev
        obtain ⟨rfl, rfl⟩ := ev
        simp only at hcs
        obtain ⟨c0, c1, c2, c3, c4⟩ := hcs wr hB
        have hcs' := Lib.hid hcs; clear hcs
        have hw := hox.wh; have hi := hox.ii
        simp only at hw hi
        obtain ⟨hw0, hw1⟩ := hw
        have hKl := fun h0 => ints_low hK h0
        have hKr : ∀ u, Below w.heap.size w u → Slc (intEnc .i64) 1 u (.slice ka K.length kc) K := fun u hu => hK.low hu hKl
        clear hc hx hox
        have hg := great_any wr xw xi xn xt ka kc K.length
        by_cases hG : xn.size ≤ 100 ∧ xt.size ≤ 2000 ∧ K.length ≤ 100
        · rw [decide_eq_false (fun h => h hG)] at hg
          obtain ⟨hG1, hG2, hG3⟩ := hG
          have hgo : Calls Try.prog 10 #[.agg #[.int .u8 xw, .string xn, .string xt, .int .i64 xi, .slice ka K.length kc]] wr fun e w' => e = .returned (.bool false) ∧ Pr (fun _ => False) w.heap.size w' (w.heap.size + 1) w.heap.size w1.heap.size s t ∧ Below w.heap.size w w' := hg.mono fun e w' ⟨g1, g2⟩ => ⟨g1, (hP.pure g2).1, hB.trans (hP.pure g2).2.1⟩
          have hdo := fun u (hu : Pr (fun _ => False) w.heap.size u (w.heap.size + 1) w.heap.size w1.heap.size s t) (hb : Below w.heap.size w u) => does_ex hLi'.out u (w.heap.size + 1) w.heap.size w1.heap.size s t xw xi xn xt ka kc K k hu ho hot hl hlt2 (by omega) hw0 hw1 hG1 hG2 hi (hKr u hb) hKl
          have hdo' := Lib.hid hdo; clear hdo
          clear hg hend hP ho hot hKr hKl hC'
          go_wp2_with (first
            | (go_at_call 10; (with_reducible refine hgo.mono ?_); clear hgo; rintro e w3 ⟨rfl, P3, B3⟩; obtain ⟨e0, e1, e2, e3, e4⟩ := hcs'.out w3 B3)
            | (go_at_call 12; (with_reducible refine (hdo'.out w3 P3 B3).mono ?_); rintro e w4 ⟨r, S, T, rfl, hoS, hoT, hlS, hlT, hrS, P4, K4⟩; have B4 := B3.trans K4.1; have D4 := P4.disk; have cL := hLi'.out w4 _ _ S D4 hoS (by omega))
            | (go_at_call 14; (with_reducible refine cL.mono ?_); clear cL; rintro e w5 ⟨l5, rfl, O5, B5⟩; obtain ⟨la, lc, rfl⟩ := O5.lens))
          have hn : (S.L.map Fl.n).length = S.L.length := List.length_map ..
          rw [hn] at O5
          have D5 := D4.pure B5
          have P5 := (P4.pure B5).1
          have A5 := B4.trans (P4.pure B5).2.1
          have O5' := Lib.hid O5; have P5' := Lib.hid P5
          have hoS' := Lib.hid hoS; have hoT' := Lib.hid hoT
          have hu1 := hoS.room.1
          have hu2 := hoS.room.2
          clear O5 P5 P4 K4 D4 B5 hdo' hcs' c0 c1 c2 c3 c4 e0 e1 e2 e3 e4
          obtain ⟨wo, rfl⟩ : ∃ wo, wo = wr := ⟨_, rfl⟩
          go_loopw [9, 10] (fun s9 s10 wr => ∃ j : Nat, j ≤ S.L.length ∧ s10 = .int .i64 j ∧ s9 = .int .i64 (if S.off then 0 else usedF (S.L.take j)) ∧ Below w5.heap.size w5 wr) (fun _ s10 _ => S.L.length - (intOf s10).toNat)
          case atStart => exact ⟨0, by omega, rfl, by simp [usedF_nil], Below.refl _ _⟩
          case round =>
            obtain ⟨j, hj, rfl, rfl, hBi⟩ := hrel
            have D6 := D5.pure hBi
            by_cases hjl : j < S.L.length
            · have hjn : j < (S.L.map Fl.n).length := by rw [hn]; exact hjl
              obtain ⟨g1, c1, e1, h1, -⟩ := Own.atd strEnc_len (O5'.out.pure hBi) j hjn
              have hnm : (S.L.map Fl.n)[j] = S.L[j].n := by simp
              have i1 := h1 0 (.string S.L[j].n) (by rw [hnm]; rfl)
              simp only [Value.slice.injEq, Nat.mul_one, Nat.add_zero, and_true, true_and, hn] at e1 i1
              obtain ⟨rfl, rfl⟩ := e1
              clear h1 hnm
              have hxo := mayN_ok (hoS'.out.file _ (List.getElem_mem hjl)).1
              have cR := read_any wr _ _ S S.L[j].n D6 hxo
              cases hoff : S.off
              · have hrd := rdD_at hoS'.out hoff hjl
                rw [hrd] at cR
                simp only at cR
                have u1 := usedF_take S.L j hjl
                have u2 := usedF_take_le S.L (j + 1)
                have u3 := usedF_nonneg (S.L.take j)
                rw [u1] at u2
                have u1' := Lib.hid u1; clear u1
                simp only [Bool.false_eq_true, if_false]
                go_wp2_with (go_at_call 15; (with_reducible refine cR.mono ?_); clear cR; rintro e w7 ⟨rfl, B7⟩)
                have hBn := hBi.trans (B7.mono hBi.size)
                go_roundw
                case rel => exact ⟨j + 1, by omega, by go_num, by first | rw [u1'.out] | (simp only [hoff, Bool.false_eq_true, if_false]; rw [u1'.out]), hBn⟩
                case measure => simp [intOf]; omega
              · have hrd : rdD S S.L[j].n = (ByteArray.empty, 0, 100) := by unfold rdD; rw [if_pos hoff]
                rw [hrd] at cR
                simp only at cR
                simp only [if_true]
                go_wp2_with (go_at_call 15; (with_reducible refine cR.mono ?_); clear cR; rintro e w7 ⟨rfl, B7⟩)
                have hBn := hBi.trans (B7.mono hBi.size)
                go_roundw
                case rel => exact ⟨j + 1, by omega, by go_num, by first | rfl | simp [hoff], hBn⟩
                case measure => simp [intOf]; omega
            · obtain rfl : j = S.L.length := by omega
              rw [List.take_length]
              have hmx := hmx'.out
              have hun := usedF_nonneg S.L
              have hRu : usedF S.L ≤ R := by rw [← hro, ← hrS]; exact hu1
              have cU := fun u (hu : Disk u (w.heap.size + 1) w.heap.size S) => used_any u _ _ S hu hoS'.out
              have cU' := Lib.hid cU; clear cU
              have k0 := D6.c0
              have k3 := D6.c3
              have cD := fun u (hu : Disk u (w.heap.size + 1) w.heap.size S) => down_ok u (w.heap.size + 1) w.heap.size S.off hu.c0 hu.c3
              have cD' := Lib.hid cD; clear cD
              have P6 := (P5'.out.pure hBi).1
              have A6 := A5.trans (P5'.out.pure hBi).2.1
              have P6' := Lib.hid P6; clear P6
              have fin : ∀ u, Below wr.heap.size wr u → Pr (fun _ => False) w.heap.size u (w.heap.size + 1) w.heap.size w1.heap.size S T ∧ Below w.heap.size w u := fun u hu => ⟨(P6'.out.pure hu).1, A6.trans (P6'.out.pure hu).2.1⟩
              have fin' := Lib.hid fin; clear fin
              cases hoff : S.off
              · rw [hoff] at cD' k3
                simp only [Bool.false_eq_true, if_false]
                go_wp2_with (first
                  | (go_at_call 16; first
                    | ((with_reducible refine (cU'.out _ D6).mono ?_); rintro e w8 ⟨rfl, B8⟩; have D8 := D6.pure B8; clear D6)
                    | ((with_reducible refine (cU'.out _ D8).mono ?_); rintro e w9 ⟨rfl, B9⟩; have B89 := B8.trans (B9.mono B8.size)))
                  | (go_at_call 17; (with_reducible refine (cD'.out _ D8).mono ?_); rintro e _ ⟨rfl, rfl⟩))
                have hfin := fin'.out _ B89
                go_roundw
                case rel => exact ⟨k + 1, S, T, by omega, by omega, by go_num, hoS'.out, hoT'.out, hlS, hlT, hrS.trans hro, hfin.1, hfin.2⟩
                case measure => simp [intOf]; omega
              · rw [hoff] at cD' k3
                simp only [if_true]
                go_wp2_with (first
                  | (go_at_call 16; (with_reducible refine (cU'.out _ D6).mono ?_); rintro e w8 ⟨rfl, B8⟩; have D8 := D6.pure B8; clear D6)
                  | (go_at_call 17; (with_reducible refine (cD'.out _ D8).mono ?_); rintro e _ ⟨rfl, rfl⟩))
                have hfin := fin'.out _ B8
                go_roundw
                case rel => exact ⟨k + 1, S, T, by omega, by omega, by go_num, hoS'.out, hoT'.out, hlS, hlT, hrS.trans hro, hfin.1, hfin.2⟩
                case measure => simp [intOf]; omega
        · rw [decide_eq_true hG] at hg
          have hgo : Calls Try.prog 10 #[.agg #[.int .u8 xw, .string xn, .string xt, .int .i64 xi, .slice ka K.length kc]] wr fun e w' => e = .returned (.bool true) ∧ Below w.heap.size w w' := hg.mono fun e w' ⟨g1, g2⟩ => ⟨g1, hB.trans (hP.pure g2).2.1⟩
          clear hg hend hP ho
          go_wp2_with (first
            | (go_at_call 10; (with_reducible refine hgo.mono ?_); clear hgo; rintro e w3 ⟨rfl, B3⟩)
            | (go_at_call 11; (with_reducible refine (hhead'.out w3).mono ?_); rintro e w4 ⟨rfl, B4⟩))
          go_ret
          exact ⟨rfl, B3.trans (B4.mono B3.size)⟩
      · go_wp2_with (go_at_call 11; (with_reducible refine hend.mono ?_); clear hend; rintro e w9 ⟨rfl, B9⟩)
        go_ret
        exact ⟨rfl, B9⟩
    · go_wp2_with (go_at_call 11; (with_reducible refine hend.mono ?_); clear hend; rintro e w9 ⟨rfl, B9⟩)
      go_ret
      exact ⟨rfl, B9⟩
end Go.Proofs.Ytgpdbifgbabnnaa
