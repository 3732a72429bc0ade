/- The document's round: Turn. Conditions: as for its memory; at most a million subscriptions. -/
import Derived.Test.YtelebabegbkdnaaCreditJ
namespace Go.Proofs.Ytelebabegbkdnaa
open Go.RowKit
set_option linter.unusedVariables false
variable {w w' : World} {p : Nat} {v : Value} {L : List Sub} {last : ByteArray}

/-- The places in the order of a turn. -/
def ordN (n nx : Nat) : List Nat := (List.range (n - nx)).map (nx + ·) ++ List.range nx
theorem ordN_len {n nx : Nat} (h : nx ≤ n) : (ordN n nx).length = n := by simp [ordN]; omega
theorem ordN_get? {n nx : Nat} (h : nx ≤ n) (j : Nat) (hj : j < n) : (ordN n nx)[j]? = some ((nx + j) % n) := by
  unfold ordN
  by_cases hlt : j < n - nx
  · rw [List.getElem?_append_left (by simpa using hlt), Nat.mod_eq_of_lt (by omega)]
    simp [hlt]
  · rw [List.getElem?_append_right (by simp; omega)]
    rw [show nx + j = n + (j - (n - nx)) by omega, Nat.add_mod_left, Nat.mod_eq_of_lt (by omega)]
    simp only [List.length_map, List.length_range]
    exact List.getElem?_range (by omega)
theorem ordN_get {n nx : Nat} (h : nx ≤ n) (j : Nat) (hj : j < (ordN n nx).length) : (ordN n nx)[j] = (nx + j) % n := by
  have := ordN_get? h j (by rw [ordN_len h] at hj; exact hj)
  rw [List.getElem?_eq_getElem hj] at this
  exact Option.some.inj this
theorem ordN_lt {n nx : Nat} (h : nx ≤ n) (j : Nat) (hj : j < (ordN n nx).length) : (ordN n nx)[j] < n := by
  rw [ordN_get h j hj]
  have := ordN_len h
  exact Nat.mod_lt _ (by omega)
theorem places_ord {n nx : Nat} (h : nx ≤ n) : (places n nx).map (·.1) = ordN n nx := by
  apply List.ext_getElem
  · rw [ordN_len h]; unfold places; split
    · simp [upto_length]
    · simp; omega
  · intro j h1 h2
    rw [ordN_get h j h2]
    simp only [List.getElem_map]
    have h0 : 0 < n := by have := ordN_len h; omega
    simp only [places, dif_pos h0, upto, List.getElem_map, List.getElem_range, place]

/-- The first of them that may be served. -/
def turnN (L : List Sub) (nx : Nat) (may : List ByteArray) : Option Nat := (ordN L.length nx).find? (fun i => (L[i]?.map (serv may)).getD false)
theorem find_map_val {n : Nat} (M : List (Fin n)) (f : Fin n → Bool) (g : Nat → Bool) (h : ∀ i : Fin n, g i.1 = f i) : (M.map (·.1)).find? g = (M.find? f).map (·.1) := by
  induction M with
  | nil => rfl
  | cons x M ih =>
    simp only [List.map_cons, List.find?_cons, h x]
    cases f x
    · exact ih
    · rfl
theorem turn_same {L : List Sub} {nx : Nat} {may : List ByteArray} (h : nx ≤ L.length) : turnN L nx may = (turnOf L nx may).map (·.1) := by
  unfold turnN turnOf
  rw [← places_ord h]
  exact find_map_val _ _ _ (fun i => by simp [List.getElem?_eq_getElem i.2])

def natEnc (k : Nat) : List Value := [.int .i64 (k : Int)]
theorem natEnc_len (k : Nat) : (natEnc k).length = 1 := rfl
theorem natEnc_one (k : Nat) : ∀ u ∈ natEnc k, u.oneCell' = true := by simp [natEnc, Value.oneCell']
theorem elem_int : ElemT Try.prog 31 3 1 8 := ElemT.mk' Try.underlying31 (show (Try.prog.info? 3).map (fun i => (i.zero, i.size, i.bytes)) = some (some (.int .i64 0), 1, 8) by kernel_rfl) rfl (by omega)

def nxOf (L : List Sub) (last : ByteArray) : Nat := match findS L last with | none => 0 | some i => i + 1
theorem nxOf_le (L : List Sub) (last : ByteArray) : nxOf L last ≤ L.length := by
  unfold nxOf
  cases h : findS L last with
  | none => simp
  | some i => exact findS_lt h
theorem nxOf_idx (L : List Sub) (last : ByteArray) : idxOf (findS L last) = (nxOf L last : Int) - 1 := by
  unfold nxOf
  cases h : findS L last with
  | none => rfl
  | some i => simp [idxOf]

theorem sameS_comm (a b : ByteArray) : sameS a b = sameS b a := by
  rw [Bool.eq_iff_iff, sameS_iff, sameS_iff]; exact eq_comm
theorem serv_in (may : List ByteArray) (x : Sub) : serv may x = (decide (0 < x.2) && may.any (fun y => sameS y x.1)) := by
  unfold serv
  congr 2
  funext y; exact sameS_comm _ _

def TurnPost (w : World) (p : Nat) (v : Value) (L : List Sub) (last : ByteArray) (may : List ByteArray) (e : Ending) (w' : World) : Prop :=
  (turnN L (nxOf L last) may = none ∧ e = .returned (.tuple #[.string ⟨#[]⟩, .bool false]) ∧ RStep w w' p v L last) ∨
  ∃ i, turnN L (nxOf L last) may = some i ∧ ∃ h : i < L.length, e = .returned (.tuple #[.string L[i].1, .bool true]) ∧ RStep w w' p v (L.set i (L[i].1, spent L[i].2)) L[i].1

theorem range_map_succ (nx j : Nat) : (List.range (j + 1)).map (nx + ·) = (List.range j).map (nx + ·) ++ [nx + j] := by rw [List.range_succ, List.map_append]; rfl

set_option maxRecDepth 100000 in
set_option maxHeartbeats 4000000 in
theorem ref_turn (w : World) (p : Nat) (v mv : Value) (L : List Sub) (last : ByteArray) (may : List ByteArray) (h : RefR w p v L last) (hm : Slc strEnc 1 w mv may) (hL : L.length ≤ 1000000) (hc : ∀ x ∈ L, 0 ≤ x.2 ∧ x.2 ≤ 4294967295) :
    Calls Try.prog 17 #[.pointer (some ⟨p, 0, none⟩), mv] w (TurnPost w p v L last may) := by
  have hf := ref_find w p v L last last h
  rw [nxOf_idx] at hf
  obtain ⟨nx, hnx⟩ : ∃ nx, nx = nxOf L last := ⟨_, rfl⟩
  have hnl : nx ≤ L.length := by rw [hnx]; exact nxOf_le L last
  rw [← hnx] at hf
  have hnx' := Lib.hid hnx; clear hnx
  have hpl := h.1.lt
  have c0 := h.c0
  have c1 := h.c1
  obtain ⟨a, cap, rfl, hml⟩ := h.slc.len
  unfold maxLen at hml
  have h' := Lib.hid h
  have hc' := Lib.hid hc; clear hc
  clear h
  obtain ⟨ma, mn, mc, rfl⟩ := hm.shape3
  go_enter Try.func17, Try.ntmps17
  go_wp2_with (go_at_call 21; refine hf.mono ?_; clear hf; rintro e w' ⟨rfl, rfl⟩)
  go_loopw [7, 8] (fun s7 s8 wr => ∃ k : Nat, nx ≤ k ∧ k ≤ L.length ∧ s8 = .int .i64 k ∧ Own w.heap.size 3 1 natEnc wr s7 ((List.range (k - nx)).map (nx + ·)) ∧ Below w.heap.size w wr) (fun _ s8 _ => L.length - (intOf s8).toNat)
  case atStart => exact ⟨nx, by omega, hnl, by go_num, by rw [Nat.sub_self]; exact Own.nil, Below.refl _ _⟩
  case round =>
    obtain ⟨k, hk1, hk, rfl, hO, hB⟩ := hrel
    have hBs := hB.size
    have d0 := (hB.cell (p := ⟨p, 0, none⟩) hpl).trans c0
    by_cases hlt : k < L.length
    · have hll : ((List.range (k - nx)).map (nx + ·)).length = k - nx := by simp
      have hkeq := Lib.hid (show (List.range (k + 1 - nx)).map (nx + ·) = (List.range (k - nx)).map (nx + ·) ++ [k] by rw [show k + 1 - nx = (k - nx) + 1 by omega, range_map_succ, show nx + (k - nx) = k by omega])
      clear c0 c1
      go_wp2_with (at_builtin; refine wpList_app1 rfl _ _ 31 3 rfl elem_int natEnc_len natEnc_one u7 _ rfl (hO.alloc _) wr.heap.size 1 k rfl (fun j u hu => ((Blk.new wr [.int .i64 (k : Int)] 3).cell j).trans hu) (by rw [hll]; omega) (by unfold maxLen; rw [hll]; omega) (by simp; omega) ?_; intro g' cap' w4 hown hgr hfr)
      go_roundw
      case rel =>
        refine ⟨k + 1, by omega, by omega, by go_num, ?_, (hB.alloc hBs _).grown hgr (by simp; omega) (fun j e => hO.ge e)⟩
        rw [hkeq.out]
        have := hown
        rw [hll] at this
        first | exact this | exact hown
      case measure => simp [intOf]; omega
    · obtain rfl : k = L.length := by omega
      clear c0 c1
      go_wp2
      go_loopw [7, 9] (fun s7 s9 wr => ∃ k : Nat, k ≤ nx ∧ s9 = .int .i64 k ∧ Own w.heap.size 3 1 natEnc wr s7 ((List.range (L.length - nx)).map (nx + ·) ++ List.range k) ∧ Below w.heap.size w wr) (fun _ s9 _ => nx - (intOf s9).toNat)
      case atStart => exact ⟨0, by omega, rfl, by simpa using hO, hB⟩
      case round =>
        clear hO hB hBs d0
        obtain ⟨k, hk, rfl, hO, hB⟩ := hrel
        have hBs := hB.size
        by_cases hlt : k < nx
        · have hle : (k : Int) ≤ (nx : Int) - 1 := by omega
          have hll : ((List.range (L.length - nx)).map (nx + ·) ++ List.range k).length = L.length - nx + k := by simp
          have hkeq := Lib.hid (show (List.range (L.length - nx)).map (nx + ·) ++ List.range (k + 1) = ((List.range (L.length - nx)).map (nx + ·) ++ List.range k) ++ [k] by rw [List.range_succ, List.append_assoc])
          go_wp2_with (at_builtin; refine wpList_app1 rfl _ _ 31 3 rfl elem_int natEnc_len natEnc_one u7 _ rfl (hO.alloc _) wr.heap.size 1 k rfl (fun j u hu => ((Blk.new wr [.int .i64 (k : Int)] 3).cell j).trans hu) (by rw [hll]; omega) (by unfold maxLen; rw [hll]; omega) (by simp; omega) ?_; intro g' cap' w4 hown hgr hfr)
          go_roundw
          case rel =>
            refine ⟨k + 1, by omega, by go_num, ?_, (hB.alloc hBs _).grown hgr (by simp; omega) (fun j e => hO.ge e)⟩
            rw [hkeq.out]
            have := hown
            rw [hll] at this
            first | exact this | exact hown
          case measure => simp [intOf]; omega
        · obtain rfl : k = nx := by omega
          have hle : ¬ (k : Int) ≤ (k : Int) - 1 := by omega
          obtain ⟨M, hM⟩ : ∃ M, M = ordN L.length k := ⟨_, rfl⟩
          have hMl : M.length = L.length := by rw [hM]; exact ordN_len hnl
          have hMg : ∀ j, (hj : j < M.length) → M[j] < L.length := fun j hj => by subst hM; exact ordN_lt hnl j hj
          have hOM : Own w.heap.size 3 1 natEnc wr u7 M := by rw [hM]; exact hO
          have hMg' := Lib.hid hMg
          have hM' := Lib.hid hM
          clear hM hMg hO
          obtain ⟨oa, oc, rfl, hol⟩ := (hOM.slc natEnc_len).len
          rw [hMl] at hOM
          rw [hMl]
          have hS := hOM.slc natEnc_len
          have hmr := hm.pure (hB.mono (Nat.le_refl _))
          have hh := h'.out.pure hB
          have d0 := hh.c0
          have hdone : turnN L k may = M.find? (fun i => (L[i]?.map (serv may)).getD false) := by unfold turnN; rw [hM'.out]
          have hdone' := Lib.hid hdone; clear hdone
          go_wp2
          go_loop [10] (fun s10 => ∃ j : Nat, j ≤ L.length ∧ s10 = .int .i64 j ∧ (M.take j).find? (fun i => (L[i]?.map (serv may)).getD false) = none) (fun s10 => L.length - (intOf s10).toNat)
          case atStart => exact ⟨0, by omega, rfl, by simp⟩
          case round =>
            obtain ⟨j, hj, rfl, hno⟩ := hrel
            have hno' := Lib.hid hno; clear hno
            by_cases hlt2 : j < L.length
            · have hjm : j < M.length := by omega
              obtain ⟨i, hi⟩ : ∃ i, i = M[j] := ⟨_, rfl⟩
              have hil : i < L.length := by rw [hi]; exact hMg'.out j hjm
              obtain ⟨og, oo, rfl⟩ := hS.addr hjm
              have e0 := hS.get j hjm 0 (.int .i64 (i : Int)) (by rw [hi]; rfl)
              simp only [Nat.add_zero, Nat.mul_one] at e0
              obtain ⟨g, cap', hv, hgp, hlc, hcm⟩ := hh.shape hil
              simp only [Value.slice.injEq, true_and] at hv
              obtain ⟨rfl, rfl⟩ := hv
              obtain ⟨_, f0, f1, fz⟩ := hh.facts hil
              have fz1 := fz (i * 2 + 1)
              have hpf := hh.1.frozen 1
              have hp1 := hh.c1
              have hin := ref_in wr _ may L[i].1 hmr
              have hsv := serv_in may L[i]
              have htk : M.take (j + 1) = M.take j ++ [i] := by rw [List.take_succ_eq_append_getElem hjm, hi]
              have htk' := Lib.hid htk; clear htk
              obtain ⟨q0, q1⟩ := hc'.out _ (List.getElem_mem hil)
              have hi' := Lib.hid hi
              clear hi fz
              have hMi : (L[i]?.map (serv may)).getD false = serv may L[i] := by rw [List.getElem?_eq_getElem hil]; rfl
              have hMi' := Lib.hid hMi; clear hMi
              have hcont : serv may L[i] = false → (M.take (j + 1)).find? (fun i => (L[i]?.map (serv may)).getD false) = none := fun e => by
                rw [htk'.out, List.find?_append, hno'.out, List.find?_cons, hMi'.out, e]; rfl
              have hcont' := Lib.hid hcont; clear hcont
              by_cases hz : L[i].2 = 0
              · have hsf : serv may L[i] = false := by rw [hsv, hz]; simp
                have hno2 := Lib.hid (hcont'.out hsf)
                have hzb : (L[i].2 == 0) = true := by rw [hz]; rfl
                clear hsf hz hsv hin
                go_wp2
                go_round
                case rel => exact ⟨j + 1, by omega, by go_num, hno2.out⟩
                case measure => simp [intOf]; omega
              · have hzb : (L[i].2 == 0) = false := beq_eq_false_iff_ne.2 hz
                have hpos : 0 < L[i].2 := by omega
                cases hs1 : may.any (fun y => sameS y L[i].1)
                · have hsf : serv may L[i] = false := by rw [hsv, hs1]; simp
                  have hno2 := Lib.hid (hcont'.out hsf)
                  rw [hs1] at hin
                  clear hsf hsv hs1 hz
                  go_wp2_with (go_at_call 31; refine hin.mono ?_; clear hin; rintro e w' ⟨rfl, rfl⟩)
                  go_round
                  case rel => exact ⟨j + 1, by omega, by go_num, hno2.out⟩
                  case measure => simp [intOf]; omega
                · have hst : serv may L[i] = true := by rw [hsv, hs1]; simp; omega
                  have hfd : turnN L k may = some i := by
                    rw [hdone'.out, ← List.take_append_drop (j + 1) M, htk'.out, List.append_assoc, List.find?_append, hno'.out]
                    simp only [Option.none_or, List.singleton_append]
                    rw [List.find?_cons, hMi'.out, hst]
                  have hfd' := Lib.hid hfd
                  rw [hs1] at hin
                  clear hst hfd hsv hs1 hz
                  have hset := fun W c (hW : RefR W p (.slice (some ⟨g, 0, none⟩) L.length cap) L last) => (hW.set hil c)
                  have hset' := Lib.hid hset; clear hset
                  by_cases hE : L[i].2 = 4294967295
                  · have hEb : (L[i].2 != 4294967295) = false := by rw [hE]; rfl
                    have hE' := Lib.hid hE; clear hE
                    go_wp2_with (go_at_call 31; refine hin.mono ?_; clear hin; rintro e w' ⟨rfl, rfl⟩)
                    go_ret2
                    refine .inr ⟨i, by rw [← hnx'.out]; exact hfd'.out, hil, rfl, RStep.of_below hB ?_⟩
                    have e2 : L.set i (L[i].1, spent L[i].2) = L := by
                      unfold spent; rw [if_pos hE'.out]
                      apply List.ext_getElem?
                      intro x
                      rw [List.getElem?_set]
                      split
                      · rename_i hx; subst hx; rw [List.getElem?_eq_getElem hil]
                      · rfl
                    rw [e2]
                    exact ⟨_, hh.setLast _, Upd.set (S := RefS p (.slice (some ⟨g, 0, none⟩) L.length cap)) (p := ⟨p, 1, none⟩) (.inl rfl) _, fun k hk => .inl hk⟩
                  · have hEb : (L[i].2 != 4294967295) = true := by simpa using hE
                    have hsp : spent L[i].2 = L[i].2 - 1 := by unfold spent; rw [if_neg hE]
                    have hsp' := Lib.hid hsp
                    have hs2 := Lib.hid (hh.set hil (L[i].2 - 1))
                    clear hE hsp
                    go_wp2_with (go_at_call 31; refine hin.mono ?_; clear hin; rintro e w' ⟨rfl, rfl⟩)
                    go_ret2
                    refine .inr ⟨i, by rw [← hnx'.out]; exact hfd'.out, hil, rfl, RStep.of_below hB ?_⟩
                    rw [hsp'.out]
                    obtain ⟨v', k1, k2, k3⟩ := hs2.out
                    exact ⟨v', k1.setLast _, k2.trans (Upd.set (S := RefS p (.slice (some ⟨g, 0, none⟩) L.length cap)) (p := ⟨p, 1, none⟩) (.inl rfl) _) (fun _ h _ => h), k3⟩
            · obtain rfl : j = L.length := by omega
              go_wp2
              go_ret2
              refine .inl ⟨?_, rfl, RStep.of_below hB (RStep.refl hh)⟩
              rw [← hnx'.out, hdone'.out]
              have := hno'.out
              rw [List.take_of_length_le (by omega)] at this
              exact this
end Go.Proofs.Ytelebabegbkdnaa
