/- The law CreditPlays, walked: it returns true whatever its argument is, and nothing that was there has changed. Conditions: the argument reads as a row of calls. Written by gen_cplays.py. -/
import Derived.Test.YtelebabegbkdnaaCreditM
import Derived.Test.YtelebabegbkdnaaCreditG
import Derived.Test.YtelebabegbkdnaaOpenS
import Derived.Deep.RegionHeld3
namespace Go.Proofs.Ytelebabegbkdnaa
open Go.RowKit Go.ChangeShapes Go.WideShapes Go.ChangeAt
set_option linter.unusedVariables false
variable {X : Nat → Prop} {w w' : World} {r p nx : Nat} {L M : List Sub} {last : ByteArray}

/-- A call as it lies in memory; mv: the slice of tags. -/
structure CCall where
  what : Int
  tag : ByteArray
  n : Int
  mv : Value
def ccEnc (x : CCall) : List Value := [.int .u8 x.what, .string x.tag, .int .u32 x.n, x.mv]
structure CCOk (w : World) (x : CCall) : Prop where
  what : 0 ≤ x.what ∧ x.what ≤ 255
  tag : x.tag.size ≤ maxLen
  n : 0 ≤ x.n ∧ x.n ≤ 4294967295
  may : ∃ may, Slc strEnc 1 w x.mv may

theorem field_slice {H : Type} {enc : TypeId × Value → H} {P : Program} {w : World} {base : Nat} {spare : Nat → Bool} {held : Bool} {m : Nat} {t e o : Nat} {cs : List Value} {c : Value} (hi : P.underlying t = some (.slice e)) (h1 : P.cellsOf t = 1) (hc : cs[o]? = some c) (h : ∃ z, DataW.trod enc P w base spare held m t ((cs.drop o).take (P.cellsOf t)) = some z) :
    (∃ a len cap, c = .slice a len cap) ∧ ∃ d ps, DataW.Trod enc P w base spare held t c d ps := by
  obtain ⟨z, h⟩ := h
  rw [h1] at h
  have e1 : (cs.drop o).take 1 = [c] := by
    apply List.ext_getElem?
    intro j
    rw [List.getElem?_take]
    cases j with
    | zero => simp [hc]
    | succ j => simp
  rw [e1] at h
  have hs : ∃ a len cap, c = .slice a len cap := by
    rcases DataW.trod_slice hi h with ⟨hcs, _⟩ | ⟨a, len, cap, _, _, _, _, hcs, _⟩
    · simp only [List.cons.injEq, and_true] at hcs; exact ⟨none, 0, 0, hcs⟩
    · simp only [List.cons.injEq, and_true] at hcs; exact ⟨_, _, _, hcs⟩
  refine ⟨hs, z.1, z.2, m, ?_⟩
  obtain ⟨a, len, cap, rfl⟩ := hs
  exact h

theorem open_str {H : Type} {enc : TypeId × Value → H} {w : World} {base : Nat} {spare : Nat → Bool} {held : Bool} (n : Nat) (cs : List Value) (y : DataW H × List MemPlace)
    (h : DataW.trod enc Try.prog w base spare held n 9 cs = some y) : ∃ s : ByteArray, cs = strEnc s ∧ True := by
  obtain ⟨s, e, _, hl⟩ := DataW.trod_string Try.underlying9 h
  exact ⟨s, e, trivial⟩

theorem open_ccall {H : Type} {enc : TypeId × Value → H} {w : World} {base : Nat} {spare : Nat → Bool} {held : Bool} (n : Nat) (cs : List Value) (y : DataW H × List MemPlace)
    (h : DataW.trod enc Try.prog w base spare held n 42 cs = some y) : ∃ x, cs = ccEnc x ∧ CCOk w x := by
  obtain ⟨hl, m, hf⟩ := open_fields Try.underlying42 h
  have hc : Try.prog.cellsOf 42 = 4 := by kernel_rfl
  have c8 : Try.prog.cellsOf 5 = 1 := by kernel_rfl
  have cs1 : Try.prog.cellsOf 9 = 1 := by kernel_rfl
  have c32 : Try.prog.cellsOf 30 = 1 := by kernel_rfl
  have csl : Try.prog.cellsOf 26 = 1 := by kernel_rfl
  rw [hc] at hl
  match cs, hl with
  | [c0, c1, c2, c3], _ =>
    obtain ⟨a0, rfl, w0⟩ := field_int Try.underlying5 c8 (o := 0) (c := c0) rfl (hf 0 _ rfl)
    obtain ⟨a1, rfl, w1⟩ := field_string Try.underlying9 cs1 (o := 1) (c := c1) rfl (hf 1 _ rfl)
    obtain ⟨a2, rfl, w2⟩ := field_int Try.underlying30 c32 (o := 2) (c := c2) rfl (hf 2 _ rfl)
    obtain ⟨hs, d, ps, ht⟩ := field_slice Try.underlying26 csl (o := 3) (c := c3) rfl (hf 3 _ rfl)
    obtain ⟨T, hT, _⟩ := open_slc (ρ := strEnc) (Wf := fun _ => True) Try.underlying26 (show Try.prog.cellsOf 9 = 1 by kernel_rfl) (by omega) (fun n cs y hy => open_str n cs y hy) hs ht
    exact ⟨⟨a0, a1, a2, c3⟩, rfl, bounds_u8 w0, w1, bounds_u32 w2, T, hT⟩

abbrev XB (X : Nat → Prop) (B : Nat) (k : Nat) : Prop := X k ∨ k = B
theorem PairC.box (h : PairC X w r p L nx M last) (o : Obj) : PairC (XB X w.heap.size) (w.alloc o) r p L nx M last :=
  (h.more (fun k hk hl => hk.elim (fun h => h) (fun e => by omega))).pure ((Below.refl _ _).alloc (Nat.le_refl _) o)
theorem XB.lt (hX : ∀ k, X k → k < w.heap.size) (o : Obj) : ∀ k, XB X w.heap.size k → k < (w.alloc o).heap.size := fun k hk => by
  rw [heap_alloc_size]; rcases hk with h | h
  · have := hX k h; omega
  · omega
theorem Kept.lt {Y : Nat → Prop} (hY : ∀ k, Y k → k < w.heap.size) (h : Kept Y w w') : ∀ k, Y k → k < w'.heap.size := fun k hk => Nat.lt_of_lt_of_le (hY k hk) h.size
theorem Kept.blk {Y : Nat → Prop} {cs : List Value} {B : Nat} (h : Kept Y w w') (hY : Y B) (hb : Blk w B cs) : Blk w' B cs := hb.upd h (fun hn => hn hY)
theorem Kept.belowB {B0 B : Nat} {w0 : World} (h : Below B0 w0 w) (k : Kept (XB (fun k => k < B0) B) w w') (hs : w0.heap.size = B0) : Below B0 w0 w' := by
  subst hs; exact h.trans (Upd.below k h.size (fun i hi => by rcases Nat.lt_or_ge i w0.heap.size with h | h; exact absurd (.inl h) hi; exact h))
/-- Behind a call: what is kept, and the call's own cells. -/
theorem mid {cs : List Value} {B0 B : Nat} {w0 w1 w2 : World} (hs : w0.heap.size = B0) (l1 : ∀ k, XB (fun k => k < B0) B k → k < w1.heap.size) (b1 : Blk w1 B cs) (h1 : Below B0 w0 w1) (k2 : Kept (XB (fun k => k < B0) B) w1 w2) :
    (∀ k, XB (fun k => k < B0) B k → k < w2.heap.size) ∧ Blk w2 B cs ∧ Below B0 w0 w2 := ⟨Kept.lt l1 k2, Kept.blk k2 (Or.inr rfl) b1, Kept.belowB h1 k2 hs⟩

/-- Both rounds, new. -/
theorem pair_new (w w1 : World) (r : Nat) (hB : Below w.heap.size w w1) (h : RndX (fun k => k < w.heap.size) w1 r [] 0) :
    PairC (fun k => k < w.heap.size) (w1.alloc (.cells #[.slice none 0 0, .string ⟨#[]⟩] 40)) r w1.heap.size [] 0 [] ⟨#[]⟩ := by
  obtain ⟨v, h1, h2⟩ := h
  refine ⟨v, .slice none 0 0, h1.pure ((Below.refl _ _).alloc (Nat.le_refl _) _), ⟨Blk.new w1 [.slice none 0 0, .string ⟨#[]⟩] _, Own.nil, by simp [Value.ownBlock]⟩, h2, ?_, ?_⟩
  · rintro k (hk | hk)
    · have := hB.size; omega
    · simp [Value.ownBlock] at hk
  · rintro k hk (hx | hx)
    · have := h1.lt hk; omega
    · simp [Value.ownBlock] at hx
theorem findS_at {L : List Sub} {nx : Nat} {last : ByteArray} (h : COk L nx last) {j : Nat} (hj : j < L.length) : findS L L[j].1 = some j := by
  rw [findS_T]; exact fT_of h.nodup (by unfold tagsOf; rw [List.getElem?_map, List.getElem?_eq_getElem hj]; rfl)

set_option maxRecDepth 100000 in
set_option maxHeartbeats 8000000 in
theorem plays_any (w : World) (v : Value) (C : List CCall) (hS : Slc ccEnc 4 w v C) (hC : ∀ x ∈ C, CCOk w x) :
    Calls Try.prog 5 #[v] w fun e w' => e = .returned (.bool true) ∧ Below w.heap.size w w' := by
  obtain ⟨a, cap, rfl, hm⟩ := hS.len
  unfold maxLen at hm
  go_enter Try.func5, Try.ntmps5
  go_wp2_with (go_at_call 8; refine (newX _).mono ?_; rintro e w1 ⟨rfl, hB1, hR1, hz1⟩)
  have hP1 := pair_new w w1 _ hB1 hR1
  have hB2 := hB1.alloc hB1.size (.cells #[.slice none 0 0, .string ⟨#[]⟩] 40)
  obtain ⟨r, hr⟩ : ∃ r, r = w.heap.size := ⟨_, rfl⟩
  obtain ⟨p, hp⟩ : ∃ p, p = w1.heap.size := ⟨_, rfl⟩
  have hP1' : PairC (fun k => k < w.heap.size) (w1.alloc (.cells #[.slice none 0 0, .string ⟨#[]⟩] 40)) r p [] 0 [] ⟨#[]⟩ := by rw [hr, hp]; exact hP1
  rw [← hp]
  generalize hrr : (Value.pointer (some ⟨w.heap.size, 0, none⟩)) = rp
  have hrp : rp = .pointer (some ⟨r, 0, none⟩) := by rw [← hrr, hr]
  subst hrp
  clear hrr hr hp hR1 hB1 hz1 hP1
  go_loopw [5] (fun s5 wr => ∃ (k : Nat) (L : List Sub) (nx : Nat) (last : ByteArray), k ≤ C.length ∧ k ≤ 80 ∧ s5 = .int .i64 k ∧ PairC (fun j => j < w.heap.size) wr r p L nx L last ∧ COk L nx last ∧ L.length ≤ k ∧ Below w.heap.size w wr) (fun s5 _ => C.length - (intOf s5).toNat)
  case atStart => exact ⟨0, [], 0, ⟨#[]⟩, by omega, by omega, rfl, hP1', COk.nil, by simp, hB2⟩
  case round =>
    clear hP1' hB2
    obtain ⟨k, L, nx, last, hk, hk8, rfl, hP, hO, hlen, hB⟩ := hrel
    obtain ⟨wo, rfl⟩ : ∃ wo : World, wo = wr := ⟨_, rfl⟩
    have hBs := hB.size
    by_cases hlt : k < C.length
    · by_cases hlt8 : k < 80
      · have hS' := hS.pure (hB.mono (Nat.le_refl _))
        obtain ⟨g, off, rfl⟩ := hS'.addr hlt
        obtain ⟨x, hx⟩ : ∃ x, x = C[k] := ⟨_, rfl⟩
        have hox : CCOk w x := by rw [hx]; exact hC _ (List.getElem_mem hlt)
        have hcell : ∀ j u, (ccEnc x)[j]? = some u → wo.cell? ⟨g, off + k * 4 + j, none⟩ = some u := fun j u hu => hS'.get k hlt j u (by rw [← hx]; exact hu)
        clear hx hS'
        obtain ⟨wh, tg, xn, mv⟩ := x
        obtain ⟨⟨wh0, wh1⟩, htg, ⟨xn0, xn1⟩, may, hmay⟩ := hox
        simp only at wh0 wh1 htg xn0 xn1 hmay
        have hmay' := Lib.hid hmay
        have hmayr := hmay.pure (hB.mono (Nat.le_refl _))
        obtain ⟨ma, mc, rfl, hml⟩ := hmay.len
        unfold maxLen at htg hml
        clear hmay
        have c0 := hcell 0 _ rfl
        have c1 := hcell 1 _ rfl
        have c2 := hcell 2 _ rfl
        have c3 := hcell 3 _ rfl
        simp only [Nat.add_zero] at c0
        clear hcell
        have h0 := hP.box (.cells #[.int .u8 wh, .string tg, .int .u32 xn, .slice ma may.length mc] 42)
        have l0 := XB.lt (X := fun j => j < w.heap.size) (w := wo) (fun j hj => Nat.lt_of_lt_of_le hj hBs) (.cells #[.int .u8 wh, .string tg, .int .u32 xn, .slice ma may.length mc] 42)
        have b0 := Blk.new wo [.int .u8 wh, .string tg, .int .u32 xn, .slice ma may.length mc] 42
        have m0 := hB.alloc hBs (.cells #[.int .u8 wh, .string tg, .int .u32 xn, .slice ma may.length mc] 42)
        have m0d : Below w.heap.size w (wo.alloc (.cells #[.int .u8 wh, .string tg, .int .u32 xn, .slice ma may.length mc] 42)).drew := m0.trans ((below_drew _).mono m0.size)
        have l0d : ∀ k, XB (fun j => j < w.heap.size) wo.heap.size k → k < (wo.alloc (.cells #[.int .u8 wh, .string tg, .int .u32 xn, .slice ma may.length mc] 42)).drew.heap.size := l0
        have hmayB := hmayr.pure ((Below.refl wo.heap.size wo).alloc (Nat.le_refl _) (.cells #[.int .u8 wh, .string tg, .int .u32 xn, .slice ma may.length mc] 42))
        have hLb : L.length ≤ 1000000 := by omega
        by_cases ht1 : 100 < tg.size
        · go_wp2_with (go_at_call 7; refine (head_any _).mono ?_; rintro e w2 ⟨rfl, hT⟩)
          go_ret
          exact ⟨rfl, m0.trans (hT.mono m0.size)⟩
        · by_cases ht2 : 20 < may.length
          · go_wp2_with (go_at_call 7; refine (head_any _).mono ?_; rintro e w2 ⟨rfl, hT⟩)
            go_ret
            exact ⟨rfl, m0.trans (hT.mono m0.size)⟩
          · have h6 : wh % 6 = 0 ∨ wh % 6 = 1 ∨ wh % 6 = 2 ∨ wh % 6 = 3 ∨ wh % 6 = 4 ∨ wh % 6 = 5 := by omega
            have hnxl := hO.nx_le
            have hcc := Lib.hid hO.cred
            have hnx' := Lib.hid hO.nx
            have ht1' : tg.size ≤ 1000 := by omega
            have e1 : (wo.alloc (.cells #[.int .u8 wh, .string tg, .int .u32 xn, .slice ma may.length mc] 42)).cell? ⟨wo.heap.size, 1, none⟩ = some (.string tg) := b0.cell 1
            have e2 : (wo.alloc (.cells #[.int .u8 wh, .string tg, .int .u32 xn, .slice ma may.length mc] 42)).cell? ⟨wo.heap.size, 2, none⟩ = some (.int .u32 xn) := b0.cell 2
            have e3 : (wo.alloc (.cells #[.int .u8 wh, .string tg, .int .u32 xn, .slice ma may.length mc] 42)).cell? ⟨wo.heap.size, 3, none⟩ = some (.slice ma may.length mc) := b0.cell 3
            rcases h6 with h6 | h6 | h6 | h6 | h6 | h6
            · as_aux_lemma =>
              go_wp2_with fail
              go_region_held3 (fun w' => w'.cell? ⟨wo.heap.size, 1, none⟩ = some (.string tg) ∧ w'.cell? ⟨wo.heap.size, 2, none⟩ = some (.int .u32 xn) ∧ w'.cell? ⟨wo.heap.size, 3, none⟩ = some (.slice ma may.length mc)) (first | exact ⟨e1, e2, e3⟩ | exact ⟨d1, d2, d3⟩ | exact ⟨f1, f2, f3⟩) (first | (go_at_call 9; refine (cq_add h0.drew l0 hLb).mono ?_; rintro e w1 ⟨rfl, h1, k1⟩; obtain ⟨l1, b1, m1⟩ := mid rfl l0d b0.drew m0d k1; have d1 : (w1).cell? ⟨wo.heap.size, 1, none⟩ = some (.string tg) := b1.cell 1; have d2 : (w1).cell? ⟨wo.heap.size, 2, none⟩ = some (.int .u32 xn) := b1.cell 2; have d3 : (w1).cell? ⟨wo.heap.size, 3, none⟩ = some (.slice ma may.length mc) := b1.cell 3; clear e1 e2 e3; clear k1) | (go_at_call 12; refine (cr_add h1 l1 hLb ht1').mono ?_; rintro e w2 ⟨rfl, h2, k2⟩; obtain ⟨l2, b2, m2⟩ := mid rfl l1 b1 m1 k2; have f1 : (w2).cell? ⟨wo.heap.size, 1, none⟩ = some (.string tg) := b2.cell 1; have f2 : (w2).cell? ⟨wo.heap.size, 2, none⟩ = some (.int .u32 xn) := b2.cell 2; have f3 : (w2).cell? ⟨wo.heap.size, 3, none⟩ = some (.slice ma may.length mc) := b2.cell 3; clear d1 d2 d3; clear k2 h1 l1 b1 m1))
              obtain ⟨L2, hL2⟩ : ∃ L2, L2 = (addOf L tg).2 := ⟨_, rfl⟩
              obtain ⟨nx2, hnx2⟩ : ∃ nx2, nx2 = nx := ⟨_, rfl⟩
              obtain ⟨last2, hlast2⟩ : ∃ last2, last2 = last := ⟨_, rfl⟩
              have hO2 := hO.add (t := tg)
              rw [← hL2, ← hnx2, ← hlast2] at hO2
              obtain ⟨hO2, hl2⟩ := hO2
              rw [← hL2, ← hnx2, ← hlast2] at h2
              clear hL2 hnx2 hlast2
              have hLL : L2.length ≤ 1000000 := by omega
              obtain ⟨rv, ru, _, hr2, _⟩ := id h2
              have g0 := hr2.c0
              have hrs := hr2.slc
              obtain ⟨ua, uc, rfl, hum⟩ := hr2.slc.len
              unfold maxLen at hum
              clear f3
              go_wp2_with (go_at_call 19; refine (cq_tags h2 hLL).mono ?_; rintro e w3 ⟨tv, rfl, hT, hB3⟩; obtain ⟨ta, tc, rfl, htm⟩ := hT.len; rw [List.length_map] at hT ⊢; have g3 := (hB3.cell (p := ⟨p, 0, none⟩) hr2.1.lt).trans g0)
              have h3 := h2.pure hB3
              have b3 := b2.pure hB3
              have m3 := m2.trans (hB3.mono m2.size)
              have hr3 := hr2.pure hB3
              have hO2' := Lib.hid hO2
              clear h2 b2 m2 l2 f1 f2 hr2 hrs g0 hO2 hB3
              go_loopw [13] (fun s13 wr => ∃ j : Nat, j ≤ L2.length ∧ s13 = .int .i64 j ∧ Below w3.heap.size w3 wr) (fun s13 _ => L2.length - (intOf s13).toNat)
              case atStart => exact ⟨0, by omega, rfl, Below.refl _ _⟩
              case round =>
                clear g3
                obtain ⟨j, hj, rfl, hBj⟩ := hrel
                have hrj := hr3.pure hBj
                have g0 := hrj.c0
                have hPj := h3.pure hBj
                have mj := m3.trans (hBj.mono m3.size)
                by_cases hltj : j < L2.length
                · have hTj := hT.pure hBj
                  obtain ⟨tg0, to0, rfl⟩ := hTj.addr (k := j) (by simpa using hltj)
                  have t0 := hTj.get j (by simpa using hltj) 0 (.string L2[j].1) (by simp [strEnc])
                  simp only [Nat.add_zero, Nat.mul_one] at t0
                  obtain ⟨rg, ro, rfl⟩ := hrj.slc.addr hltj
                  have u0 := hrj.slc.get j hltj 0 _ rfl
                  have u1 := hrj.slc.get j hltj 1 _ rfl
                  simp only [Nat.add_zero] at u0
                  have hcr := cq_credit (t := L2[j].1) hPj
                  rw [findS_at hO2'.out hltj] at hcr
                  simp only [Option.elim_some, List.getD_eq_getElem?_getD, List.getElem?_eq_getElem hltj, Option.getD_some] at hcr
                  obtain ⟨q0, q1⟩ := hO2'.out.cred _ (List.getElem_mem hltj)
                  have hwr : IntKind.u64.wrap L2[j].2 = L2[j].2 := IntWalk.u64_in _ (by omega)
                  have hj0 : (0 : Int) ≤ (j : Int) := by omega
                  have hj1 : (j : Int) < (L2.length : Int) := by omega
                  have hgl := World.block_lt_of_cell? _ _ u0
                  have hgt := World.block_lt_of_cell? _ _ t0
                  have hpl := hrj.1.lt
                  go_wp2_with (go_at_call 20; refine hcr.mono ?_; clear hcr; rintro e w5 ⟨rfl, hB5⟩; have t5 := (hB5.cell (p := ⟨tg0, to0 + j, none⟩) hgt).trans t0; have u50 := (hB5.cell (p := ⟨rg, ro + j * 2, none⟩) hgl).trans u0; have u51 := (hB5.cell (p := ⟨rg, ro + j * 2 + 1, none⟩) hgl).trans u1; have g5 := (hB5.cell (p := ⟨p, 0, none⟩) hpl).trans g0; clear t0 u0 u1 g0)
                  go_quiet (fail)
                  go_wp2
                  go_roundw
                  case rel => exact ⟨j + 1, by omega, by go_num, below_drewN (hBj.trans (hB5.mono hBj.size)) _⟩
                  case measure => simp [intOf]; omega
                · have hcr := cq_credit (t := tg) hPj
                  have hfi := cr_find (t := tg) hPj
                  have b5 := b3.pure hBj
                  have x1 : wr.cell? ⟨wo.heap.size, 1, none⟩ = some (.string tg) := b5.cell 1
                  have hBl := b5.lt
                  clear g0
                  cases hff : findS L2 tg with
                  | none =>
                    rw [hff] at hcr hfi
                    simp only [idxOf, Option.elim_none] at hcr hfi
                    have hfn := Lib.hid hff; clear hff hfi
                    go_wp2_with (first | (go_at_call 20; refine hcr.mono ?_; clear hcr; rintro e w5 ⟨rfl, hB5⟩; have hP5 := hPj.pure hB5; have x5 := (hB5.cell (p := ⟨wo.heap.size, 1, none⟩) hBl).trans x1; clear x1) | (go_at_call 21; refine (cr_find (t := tg) hP5).mono ?_; rw [hfn.out]; simp only [idxOf]; rintro e w' ⟨rfl, rfl⟩))
                    go_roundw
                    case rel => exact ⟨k + 1, L2, nx2, last2, by omega, by omega, by go_num, hP5.more (fun i hi _ => .inl hi), hO2'.out, by omega, mj.trans (hB5.mono mj.size)⟩
                    case measure => simp [intOf]; omega
                  | some i =>
                    rw [hff] at hcr hfi
                    simp only [idxOf, Option.elim_some] at hcr hfi
                    have hfn := Lib.hid hff; clear hff hfi
                    go_wp2_with (first | (go_at_call 20; refine hcr.mono ?_; clear hcr; rintro e w5 ⟨rfl, hB5⟩; have hP5 := hPj.pure hB5; have x5 := (hB5.cell (p := ⟨wo.heap.size, 1, none⟩) hBl).trans x1; clear x1) | (go_at_call 21; refine (cr_find (t := tg) hP5).mono ?_; rw [hfn.out]; simp only [idxOf]; rintro e w' ⟨rfl, rfl⟩))
                    go_roundw
                    case rel => exact ⟨k + 1, L2, nx2, last2, by omega, by omega, by go_num, hP5.more (fun i hi _ => .inl hi), hO2'.out, by omega, mj.trans (hB5.mono mj.size)⟩
                    case measure => simp [intOf]; omega
            · as_aux_lemma =>
              go_wp2_with fail
              go_region_held3 (fun w' => w'.cell? ⟨wo.heap.size, 1, none⟩ = some (.string tg) ∧ w'.cell? ⟨wo.heap.size, 2, none⟩ = some (.int .u32 xn) ∧ w'.cell? ⟨wo.heap.size, 3, none⟩ = some (.slice ma may.length mc)) (first | exact ⟨e1, e2, e3⟩ | exact ⟨d1, d2, d3⟩ | exact ⟨f1, f2, f3⟩) (first | (go_at_call 13; refine (cq_remove h0.drew l0 hLb hnxl).mono ?_; rintro e w1 ⟨rfl, h1, k1⟩; obtain ⟨l1, b1, m1⟩ := mid rfl l0d b0.drew m0d k1; have d1 : (w1).cell? ⟨wo.heap.size, 1, none⟩ = some (.string tg) := b1.cell 1; have d2 : (w1).cell? ⟨wo.heap.size, 2, none⟩ = some (.int .u32 xn) := b1.cell 2; have d3 : (w1).cell? ⟨wo.heap.size, 3, none⟩ = some (.slice ma may.length mc) := b1.cell 3; clear e1 e2 e3; clear k1) | (go_at_call 14; refine (cr_remove h1 l1 hLb).mono ?_; rintro e w2 ⟨rfl, h2, k2⟩; obtain ⟨l2, b2, m2⟩ := mid rfl l1 b1 m1 k2; have f1 : (w2).cell? ⟨wo.heap.size, 1, none⟩ = some (.string tg) := b2.cell 1; have f2 : (w2).cell? ⟨wo.heap.size, 2, none⟩ = some (.int .u32 xn) := b2.cell 2; have f3 : (w2).cell? ⟨wo.heap.size, 3, none⟩ = some (.slice ma may.length mc) := b2.cell 3; clear d1 d2 d3; clear k2 h1 l1 b1 m1))
              obtain ⟨L2, hL2⟩ : ∃ L2, L2 = (remOf L tg).2 := ⟨_, rfl⟩
              obtain ⟨nx2, hnx2⟩ : ∃ nx2, nx2 = remNx L tg nx := ⟨_, rfl⟩
              obtain ⟨last2, hlast2⟩ : ∃ last2, last2 = remLast L tg last := ⟨_, rfl⟩
              have hO2 := hO.rem (t := tg)
              rw [← hL2, ← hnx2, ← hlast2] at hO2
              obtain ⟨hO2, hl2⟩ := hO2
              rw [← hL2, ← hnx2, ← hlast2] at h2
              clear hL2 hnx2 hlast2
              have hLL : L2.length ≤ 1000000 := by omega
              obtain ⟨rv, ru, _, hr2, _⟩ := id h2
              have g0 := hr2.c0
              have hrs := hr2.slc
              obtain ⟨ua, uc, rfl, hum⟩ := hr2.slc.len
              unfold maxLen at hum
              clear f3
              go_wp2_with (go_at_call 19; refine (cq_tags h2 hLL).mono ?_; rintro e w3 ⟨tv, rfl, hT, hB3⟩; obtain ⟨ta, tc, rfl, htm⟩ := hT.len; rw [List.length_map] at hT ⊢; have g3 := (hB3.cell (p := ⟨p, 0, none⟩) hr2.1.lt).trans g0)
              have h3 := h2.pure hB3
              have b3 := b2.pure hB3
              have m3 := m2.trans (hB3.mono m2.size)
              have hr3 := hr2.pure hB3
              have hO2' := Lib.hid hO2
              clear h2 b2 m2 l2 f1 f2 hr2 hrs g0 hO2 hB3
              go_loopw [13] (fun s13 wr => ∃ j : Nat, j ≤ L2.length ∧ s13 = .int .i64 j ∧ Below w3.heap.size w3 wr) (fun s13 _ => L2.length - (intOf s13).toNat)
              case atStart => exact ⟨0, by omega, rfl, Below.refl _ _⟩
              case round =>
                clear g3
                obtain ⟨j, hj, rfl, hBj⟩ := hrel
                have hrj := hr3.pure hBj
                have g0 := hrj.c0
                have hPj := h3.pure hBj
                have mj := m3.trans (hBj.mono m3.size)
                by_cases hltj : j < L2.length
                · have hTj := hT.pure hBj
                  obtain ⟨tg0, to0, rfl⟩ := hTj.addr (k := j) (by simpa using hltj)
                  have t0 := hTj.get j (by simpa using hltj) 0 (.string L2[j].1) (by simp [strEnc])
                  simp only [Nat.add_zero, Nat.mul_one] at t0
                  obtain ⟨rg, ro, rfl⟩ := hrj.slc.addr hltj
                  have u0 := hrj.slc.get j hltj 0 _ rfl
                  have u1 := hrj.slc.get j hltj 1 _ rfl
                  simp only [Nat.add_zero] at u0
                  have hcr := cq_credit (t := L2[j].1) hPj
                  rw [findS_at hO2'.out hltj] at hcr
                  simp only [Option.elim_some, List.getD_eq_getElem?_getD, List.getElem?_eq_getElem hltj, Option.getD_some] at hcr
                  obtain ⟨q0, q1⟩ := hO2'.out.cred _ (List.getElem_mem hltj)
                  have hwr : IntKind.u64.wrap L2[j].2 = L2[j].2 := IntWalk.u64_in _ (by omega)
                  have hj0 : (0 : Int) ≤ (j : Int) := by omega
                  have hj1 : (j : Int) < (L2.length : Int) := by omega
                  have hgl := World.block_lt_of_cell? _ _ u0
                  have hgt := World.block_lt_of_cell? _ _ t0
                  have hpl := hrj.1.lt
                  go_wp2_with (go_at_call 20; refine hcr.mono ?_; clear hcr; rintro e w5 ⟨rfl, hB5⟩; have t5 := (hB5.cell (p := ⟨tg0, to0 + j, none⟩) hgt).trans t0; have u50 := (hB5.cell (p := ⟨rg, ro + j * 2, none⟩) hgl).trans u0; have u51 := (hB5.cell (p := ⟨rg, ro + j * 2 + 1, none⟩) hgl).trans u1; have g5 := (hB5.cell (p := ⟨p, 0, none⟩) hpl).trans g0; clear t0 u0 u1 g0)
                  go_quiet (fail)
                  go_wp2
                  go_roundw
                  case rel => exact ⟨j + 1, by omega, by go_num, below_drewN (hBj.trans (hB5.mono hBj.size)) _⟩
                  case measure => simp [intOf]; omega
                · have hcr := cq_credit (t := tg) hPj
                  have hfi := cr_find (t := tg) hPj
                  have b5 := b3.pure hBj
                  have x1 : wr.cell? ⟨wo.heap.size, 1, none⟩ = some (.string tg) := b5.cell 1
                  have hBl := b5.lt
                  clear g0
                  cases hff : findS L2 tg with
                  | none =>
                    rw [hff] at hcr hfi
                    simp only [idxOf, Option.elim_none] at hcr hfi
                    have hfn := Lib.hid hff; clear hff hfi
                    go_wp2_with (first | (go_at_call 20; refine hcr.mono ?_; clear hcr; rintro e w5 ⟨rfl, hB5⟩; have hP5 := hPj.pure hB5; have x5 := (hB5.cell (p := ⟨wo.heap.size, 1, none⟩) hBl).trans x1; clear x1) | (go_at_call 21; refine (cr_find (t := tg) hP5).mono ?_; rw [hfn.out]; simp only [idxOf]; rintro e w' ⟨rfl, rfl⟩))
                    go_roundw
                    case rel => exact ⟨k + 1, L2, nx2, last2, by omega, by omega, by go_num, hP5.more (fun i hi _ => .inl hi), hO2'.out, by omega, mj.trans (hB5.mono mj.size)⟩
                    case measure => simp [intOf]; omega
                  | some i =>
                    rw [hff] at hcr hfi
                    simp only [idxOf, Option.elim_some] at hcr hfi
                    have hfn := Lib.hid hff; clear hff hfi
                    go_wp2_with (first | (go_at_call 20; refine hcr.mono ?_; clear hcr; rintro e w5 ⟨rfl, hB5⟩; have hP5 := hPj.pure hB5; have x5 := (hB5.cell (p := ⟨wo.heap.size, 1, none⟩) hBl).trans x1; clear x1) | (go_at_call 21; refine (cr_find (t := tg) hP5).mono ?_; rw [hfn.out]; simp only [idxOf]; rintro e w' ⟨rfl, rfl⟩))
                    go_roundw
                    case rel => exact ⟨k + 1, L2, nx2, last2, by omega, by omega, by go_num, hP5.more (fun i hi _ => .inl hi), hO2'.out, by omega, mj.trans (hB5.mono mj.size)⟩
                    case measure => simp [intOf]; omega
            · as_aux_lemma =>
              go_wp2_with fail
              go_region_held3 (fun w' => w'.cell? ⟨wo.heap.size, 1, none⟩ = some (.string tg) ∧ w'.cell? ⟨wo.heap.size, 2, none⟩ = some (.int .u32 xn) ∧ w'.cell? ⟨wo.heap.size, 3, none⟩ = some (.slice ma may.length mc)) (first | exact ⟨e1, e2, e3⟩ | exact ⟨d1, d2, d3⟩ | exact ⟨f1, f2, f3⟩) (first | (go_at_call 10; refine (cq_give h0.drew l0 hcc.out xn0 xn1).mono ?_; rintro e w1 ⟨rfl, h1, k1⟩; obtain ⟨l1, b1, m1⟩ := mid rfl l0d b0.drew m0d k1; have d1 : (w1).cell? ⟨wo.heap.size, 1, none⟩ = some (.string tg) := b1.cell 1; have d2 : (w1).cell? ⟨wo.heap.size, 2, none⟩ = some (.int .u32 xn) := b1.cell 2; have d3 : (w1).cell? ⟨wo.heap.size, 3, none⟩ = some (.slice ma may.length mc) := b1.cell 3; clear e1 e2 e3; clear k1) | (go_at_call 18; refine (cr_give h1 l1 hLb hcc.out xn0 xn1).mono ?_; rintro e w2 ⟨rfl, h2, k2⟩; obtain ⟨l2, b2, m2⟩ := mid rfl l1 b1 m1 k2; have f1 : (w2).cell? ⟨wo.heap.size, 1, none⟩ = some (.string tg) := b2.cell 1; have f2 : (w2).cell? ⟨wo.heap.size, 2, none⟩ = some (.int .u32 xn) := b2.cell 2; have f3 : (w2).cell? ⟨wo.heap.size, 3, none⟩ = some (.slice ma may.length mc) := b2.cell 3; clear d1 d2 d3; clear k2 h1 l1 b1 m1))
              obtain ⟨L2, hL2⟩ : ∃ L2, L2 = (setOf L tg (gave · xn)).2 := ⟨_, rfl⟩
              obtain ⟨nx2, hnx2⟩ : ∃ nx2, nx2 = nx := ⟨_, rfl⟩
              obtain ⟨last2, hlast2⟩ : ∃ last2, last2 = last := ⟨_, rfl⟩
              have hO2 := hO.set (t := tg) (f := (gave · xn)) (gave_ok xn0)
              rw [← hL2, ← hnx2, ← hlast2] at hO2
              obtain ⟨hO2, hl2⟩ := hO2
              rw [← hL2, ← hnx2, ← hlast2] at h2
              clear hL2 hnx2 hlast2
              have hLL : L2.length ≤ 1000000 := by omega
              obtain ⟨rv, ru, _, hr2, _⟩ := id h2
              have g0 := hr2.c0
              have hrs := hr2.slc
              obtain ⟨ua, uc, rfl, hum⟩ := hr2.slc.len
              unfold maxLen at hum
              clear f3
              go_wp2_with (go_at_call 19; refine (cq_tags h2 hLL).mono ?_; rintro e w3 ⟨tv, rfl, hT, hB3⟩; obtain ⟨ta, tc, rfl, htm⟩ := hT.len; rw [List.length_map] at hT ⊢; have g3 := (hB3.cell (p := ⟨p, 0, none⟩) hr2.1.lt).trans g0)
              have h3 := h2.pure hB3
              have b3 := b2.pure hB3
              have m3 := m2.trans (hB3.mono m2.size)
              have hr3 := hr2.pure hB3
              have hO2' := Lib.hid hO2
              clear h2 b2 m2 l2 f1 f2 hr2 hrs g0 hO2 hB3
              go_loopw [13] (fun s13 wr => ∃ j : Nat, j ≤ L2.length ∧ s13 = .int .i64 j ∧ Below w3.heap.size w3 wr) (fun s13 _ => L2.length - (intOf s13).toNat)
              case atStart => exact ⟨0, by omega, rfl, Below.refl _ _⟩
              case round =>
                clear g3
                obtain ⟨j, hj, rfl, hBj⟩ := hrel
                have hrj := hr3.pure hBj
                have g0 := hrj.c0
                have hPj := h3.pure hBj
                have mj := m3.trans (hBj.mono m3.size)
                by_cases hltj : j < L2.length
                · have hTj := hT.pure hBj
                  obtain ⟨tg0, to0, rfl⟩ := hTj.addr (k := j) (by simpa using hltj)
                  have t0 := hTj.get j (by simpa using hltj) 0 (.string L2[j].1) (by simp [strEnc])
                  simp only [Nat.add_zero, Nat.mul_one] at t0
                  obtain ⟨rg, ro, rfl⟩ := hrj.slc.addr hltj
                  have u0 := hrj.slc.get j hltj 0 _ rfl
                  have u1 := hrj.slc.get j hltj 1 _ rfl
                  simp only [Nat.add_zero] at u0
                  have hcr := cq_credit (t := L2[j].1) hPj
                  rw [findS_at hO2'.out hltj] at hcr
                  simp only [Option.elim_some, List.getD_eq_getElem?_getD, List.getElem?_eq_getElem hltj, Option.getD_some] at hcr
                  obtain ⟨q0, q1⟩ := hO2'.out.cred _ (List.getElem_mem hltj)
                  have hwr : IntKind.u64.wrap L2[j].2 = L2[j].2 := IntWalk.u64_in _ (by omega)
                  have hj0 : (0 : Int) ≤ (j : Int) := by omega
                  have hj1 : (j : Int) < (L2.length : Int) := by omega
                  have hgl := World.block_lt_of_cell? _ _ u0
                  have hgt := World.block_lt_of_cell? _ _ t0
                  have hpl := hrj.1.lt
                  go_wp2_with (go_at_call 20; refine hcr.mono ?_; clear hcr; rintro e w5 ⟨rfl, hB5⟩; have t5 := (hB5.cell (p := ⟨tg0, to0 + j, none⟩) hgt).trans t0; have u50 := (hB5.cell (p := ⟨rg, ro + j * 2, none⟩) hgl).trans u0; have u51 := (hB5.cell (p := ⟨rg, ro + j * 2 + 1, none⟩) hgl).trans u1; have g5 := (hB5.cell (p := ⟨p, 0, none⟩) hpl).trans g0; clear t0 u0 u1 g0)
                  go_quiet (fail)
                  go_wp2
                  go_roundw
                  case rel => exact ⟨j + 1, by omega, by go_num, below_drewN (hBj.trans (hB5.mono hBj.size)) _⟩
                  case measure => simp [intOf]; omega
                · have hcr := cq_credit (t := tg) hPj
                  have hfi := cr_find (t := tg) hPj
                  have b5 := b3.pure hBj
                  have x1 : wr.cell? ⟨wo.heap.size, 1, none⟩ = some (.string tg) := b5.cell 1
                  have hBl := b5.lt
                  clear g0
                  cases hff : findS L2 tg with
                  | none =>
                    rw [hff] at hcr hfi
                    simp only [idxOf, Option.elim_none] at hcr hfi
                    have hfn := Lib.hid hff; clear hff hfi
                    go_wp2_with (first | (go_at_call 20; refine hcr.mono ?_; clear hcr; rintro e w5 ⟨rfl, hB5⟩; have hP5 := hPj.pure hB5; have x5 := (hB5.cell (p := ⟨wo.heap.size, 1, none⟩) hBl).trans x1; clear x1) | (go_at_call 21; refine (cr_find (t := tg) hP5).mono ?_; rw [hfn.out]; simp only [idxOf]; rintro e w' ⟨rfl, rfl⟩))
                    go_roundw
                    case rel => exact ⟨k + 1, L2, nx2, last2, by omega, by omega, by go_num, hP5.more (fun i hi _ => .inl hi), hO2'.out, by omega, mj.trans (hB5.mono mj.size)⟩
                    case measure => simp [intOf]; omega
                  | some i =>
                    rw [hff] at hcr hfi
                    simp only [idxOf, Option.elim_some] at hcr hfi
                    have hfn := Lib.hid hff; clear hff hfi
                    go_wp2_with (first | (go_at_call 20; refine hcr.mono ?_; clear hcr; rintro e w5 ⟨rfl, hB5⟩; have hP5 := hPj.pure hB5; have x5 := (hB5.cell (p := ⟨wo.heap.size, 1, none⟩) hBl).trans x1; clear x1) | (go_at_call 21; refine (cr_find (t := tg) hP5).mono ?_; rw [hfn.out]; simp only [idxOf]; rintro e w' ⟨rfl, rfl⟩))
                    go_roundw
                    case rel => exact ⟨k + 1, L2, nx2, last2, by omega, by omega, by go_num, hP5.more (fun i hi _ => .inl hi), hO2'.out, by omega, mj.trans (hB5.mono mj.size)⟩
                    case measure => simp [intOf]; omega
            · as_aux_lemma =>
              go_wp2_with fail
              go_region_held3 (fun w' => w'.cell? ⟨wo.heap.size, 1, none⟩ = some (.string tg) ∧ w'.cell? ⟨wo.heap.size, 2, none⟩ = some (.int .u32 xn) ∧ w'.cell? ⟨wo.heap.size, 3, none⟩ = some (.slice ma may.length mc)) (first | exact ⟨e1, e2, e3⟩ | exact ⟨d1, d2, d3⟩ | exact ⟨f1, f2, f3⟩) (first | (go_at_call 10; refine (cq_give h0.drew l0 hcc.out xn0 xn1).mono ?_; rintro e w1 ⟨rfl, h1, k1⟩; obtain ⟨l1, b1, m1⟩ := mid rfl l0d b0.drew m0d k1; have d1 : (w1).cell? ⟨wo.heap.size, 1, none⟩ = some (.string tg) := b1.cell 1; have d2 : (w1).cell? ⟨wo.heap.size, 2, none⟩ = some (.int .u32 xn) := b1.cell 2; have d3 : (w1).cell? ⟨wo.heap.size, 3, none⟩ = some (.slice ma may.length mc) := b1.cell 3; clear e1 e2 e3; clear k1) | (go_at_call 18; refine (cr_give h1 l1 hLb hcc.out xn0 xn1).mono ?_; rintro e w2 ⟨rfl, h2, k2⟩; obtain ⟨l2, b2, m2⟩ := mid rfl l1 b1 m1 k2; have f1 : (w2).cell? ⟨wo.heap.size, 1, none⟩ = some (.string tg) := b2.cell 1; have f2 : (w2).cell? ⟨wo.heap.size, 2, none⟩ = some (.int .u32 xn) := b2.cell 2; have f3 : (w2).cell? ⟨wo.heap.size, 3, none⟩ = some (.slice ma may.length mc) := b2.cell 3; clear d1 d2 d3; clear k2 h1 l1 b1 m1))
              obtain ⟨L2, hL2⟩ : ∃ L2, L2 = (setOf L tg (gave · xn)).2 := ⟨_, rfl⟩
              obtain ⟨nx2, hnx2⟩ : ∃ nx2, nx2 = nx := ⟨_, rfl⟩
              obtain ⟨last2, hlast2⟩ : ∃ last2, last2 = last := ⟨_, rfl⟩
              have hO2 := hO.set (t := tg) (f := (gave · xn)) (gave_ok xn0)
              rw [← hL2, ← hnx2, ← hlast2] at hO2
              obtain ⟨hO2, hl2⟩ := hO2
              rw [← hL2, ← hnx2, ← hlast2] at h2
              clear hL2 hnx2 hlast2
              have hLL : L2.length ≤ 1000000 := by omega
              obtain ⟨rv, ru, _, hr2, _⟩ := id h2
              have g0 := hr2.c0
              have hrs := hr2.slc
              obtain ⟨ua, uc, rfl, hum⟩ := hr2.slc.len
              unfold maxLen at hum
              clear f3
              go_wp2_with (go_at_call 19; refine (cq_tags h2 hLL).mono ?_; rintro e w3 ⟨tv, rfl, hT, hB3⟩; obtain ⟨ta, tc, rfl, htm⟩ := hT.len; rw [List.length_map] at hT ⊢; have g3 := (hB3.cell (p := ⟨p, 0, none⟩) hr2.1.lt).trans g0)
              have h3 := h2.pure hB3
              have b3 := b2.pure hB3
              have m3 := m2.trans (hB3.mono m2.size)
              have hr3 := hr2.pure hB3
              have hO2' := Lib.hid hO2
              clear h2 b2 m2 l2 f1 f2 hr2 hrs g0 hO2 hB3
              go_loopw [13] (fun s13 wr => ∃ j : Nat, j ≤ L2.length ∧ s13 = .int .i64 j ∧ Below w3.heap.size w3 wr) (fun s13 _ => L2.length - (intOf s13).toNat)
              case atStart => exact ⟨0, by omega, rfl, Below.refl _ _⟩
              case round =>
                clear g3
                obtain ⟨j, hj, rfl, hBj⟩ := hrel
                have hrj := hr3.pure hBj
                have g0 := hrj.c0
                have hPj := h3.pure hBj
                have mj := m3.trans (hBj.mono m3.size)
                by_cases hltj : j < L2.length
                · have hTj := hT.pure hBj
                  obtain ⟨tg0, to0, rfl⟩ := hTj.addr (k := j) (by simpa using hltj)
                  have t0 := hTj.get j (by simpa using hltj) 0 (.string L2[j].1) (by simp [strEnc])
                  simp only [Nat.add_zero, Nat.mul_one] at t0
                  obtain ⟨rg, ro, rfl⟩ := hrj.slc.addr hltj
                  have u0 := hrj.slc.get j hltj 0 _ rfl
                  have u1 := hrj.slc.get j hltj 1 _ rfl
                  simp only [Nat.add_zero] at u0
                  have hcr := cq_credit (t := L2[j].1) hPj
                  rw [findS_at hO2'.out hltj] at hcr
                  simp only [Option.elim_some, List.getD_eq_getElem?_getD, List.getElem?_eq_getElem hltj, Option.getD_some] at hcr
                  obtain ⟨q0, q1⟩ := hO2'.out.cred _ (List.getElem_mem hltj)
                  have hwr : IntKind.u64.wrap L2[j].2 = L2[j].2 := IntWalk.u64_in _ (by omega)
                  have hj0 : (0 : Int) ≤ (j : Int) := by omega
                  have hj1 : (j : Int) < (L2.length : Int) := by omega
                  have hgl := World.block_lt_of_cell? _ _ u0
                  have hgt := World.block_lt_of_cell? _ _ t0
                  have hpl := hrj.1.lt
                  go_wp2_with (go_at_call 20; refine hcr.mono ?_; clear hcr; rintro e w5 ⟨rfl, hB5⟩; have t5 := (hB5.cell (p := ⟨tg0, to0 + j, none⟩) hgt).trans t0; have u50 := (hB5.cell (p := ⟨rg, ro + j * 2, none⟩) hgl).trans u0; have u51 := (hB5.cell (p := ⟨rg, ro + j * 2 + 1, none⟩) hgl).trans u1; have g5 := (hB5.cell (p := ⟨p, 0, none⟩) hpl).trans g0; clear t0 u0 u1 g0)
                  go_quiet (fail)
                  go_wp2
                  go_roundw
                  case rel => exact ⟨j + 1, by omega, by go_num, below_drewN (hBj.trans (hB5.mono hBj.size)) _⟩
                  case measure => simp [intOf]; omega
                · have hcr := cq_credit (t := tg) hPj
                  have hfi := cr_find (t := tg) hPj
                  have b5 := b3.pure hBj
                  have x1 : wr.cell? ⟨wo.heap.size, 1, none⟩ = some (.string tg) := b5.cell 1
                  have hBl := b5.lt
                  clear g0
                  cases hff : findS L2 tg with
                  | none =>
                    rw [hff] at hcr hfi
                    simp only [idxOf, Option.elim_none] at hcr hfi
                    have hfn := Lib.hid hff; clear hff hfi
                    go_wp2_with (first | (go_at_call 20; refine hcr.mono ?_; clear hcr; rintro e w5 ⟨rfl, hB5⟩; have hP5 := hPj.pure hB5; have x5 := (hB5.cell (p := ⟨wo.heap.size, 1, none⟩) hBl).trans x1; clear x1) | (go_at_call 21; refine (cr_find (t := tg) hP5).mono ?_; rw [hfn.out]; simp only [idxOf]; rintro e w' ⟨rfl, rfl⟩))
                    go_roundw
                    case rel => exact ⟨k + 1, L2, nx2, last2, by omega, by omega, by go_num, hP5.more (fun i hi _ => .inl hi), hO2'.out, by omega, mj.trans (hB5.mono mj.size)⟩
                    case measure => simp [intOf]; omega
                  | some i =>
                    rw [hff] at hcr hfi
                    simp only [idxOf, Option.elim_some] at hcr hfi
                    have hfn := Lib.hid hff; clear hff hfi
                    go_wp2_with (first | (go_at_call 20; refine hcr.mono ?_; clear hcr; rintro e w5 ⟨rfl, hB5⟩; have hP5 := hPj.pure hB5; have x5 := (hB5.cell (p := ⟨wo.heap.size, 1, none⟩) hBl).trans x1; clear x1) | (go_at_call 21; refine (cr_find (t := tg) hP5).mono ?_; rw [hfn.out]; simp only [idxOf]; rintro e w' ⟨rfl, rfl⟩))
                    go_roundw
                    case rel => exact ⟨k + 1, L2, nx2, last2, by omega, by omega, by go_num, hP5.more (fun i hi _ => .inl hi), hO2'.out, by omega, mj.trans (hB5.mono mj.size)⟩
                    case measure => simp [intOf]; omega
            · as_aux_lemma =>
              go_wp2_with fail
              go_region_held3 (fun w' => w'.cell? ⟨wo.heap.size, 1, none⟩ = some (.string tg) ∧ w'.cell? ⟨wo.heap.size, 2, none⟩ = some (.int .u32 xn) ∧ w'.cell? ⟨wo.heap.size, 3, none⟩ = some (.slice ma may.length mc)) (first | exact ⟨e1, e2, e3⟩ | exact ⟨d1, d2, d3⟩ | exact ⟨f1, f2, f3⟩) (first | (go_at_call 15; refine (cq_stop h0.drew l0).mono ?_; rintro e w1 ⟨rfl, h1, k1⟩; obtain ⟨l1, b1, m1⟩ := mid rfl l0d b0.drew m0d k1; have d1 : (w1).cell? ⟨wo.heap.size, 1, none⟩ = some (.string tg) := b1.cell 1; have d2 : (w1).cell? ⟨wo.heap.size, 2, none⟩ = some (.int .u32 xn) := b1.cell 2; have d3 : (w1).cell? ⟨wo.heap.size, 3, none⟩ = some (.slice ma may.length mc) := b1.cell 3; clear e1 e2 e3; clear k1) | (go_at_call 16; refine (cr_stop h1 l1 hLb).mono ?_; rintro e w2 ⟨rfl, h2, k2⟩; obtain ⟨l2, b2, m2⟩ := mid rfl l1 b1 m1 k2; have f1 : (w2).cell? ⟨wo.heap.size, 1, none⟩ = some (.string tg) := b2.cell 1; have f2 : (w2).cell? ⟨wo.heap.size, 2, none⟩ = some (.int .u32 xn) := b2.cell 2; have f3 : (w2).cell? ⟨wo.heap.size, 3, none⟩ = some (.slice ma may.length mc) := b2.cell 3; clear d1 d2 d3; clear k2 h1 l1 b1 m1))
              obtain ⟨L2, hL2⟩ : ∃ L2, L2 = (setOf L tg (fun _ => 0)).2 := ⟨_, rfl⟩
              obtain ⟨nx2, hnx2⟩ : ∃ nx2, nx2 = nx := ⟨_, rfl⟩
              obtain ⟨last2, hlast2⟩ : ∃ last2, last2 = last := ⟨_, rfl⟩
              have hO2 := hO.set (t := tg) (f := fun _ => 0) (fun _ _ => by omega)
              rw [← hL2, ← hnx2, ← hlast2] at hO2
              obtain ⟨hO2, hl2⟩ := hO2
              rw [← hL2, ← hnx2, ← hlast2] at h2
              clear hL2 hnx2 hlast2
              have hLL : L2.length ≤ 1000000 := by omega
              obtain ⟨rv, ru, _, hr2, _⟩ := id h2
              have g0 := hr2.c0
              have hrs := hr2.slc
              obtain ⟨ua, uc, rfl, hum⟩ := hr2.slc.len
              unfold maxLen at hum
              clear f3
              go_wp2_with (go_at_call 19; refine (cq_tags h2 hLL).mono ?_; rintro e w3 ⟨tv, rfl, hT, hB3⟩; obtain ⟨ta, tc, rfl, htm⟩ := hT.len; rw [List.length_map] at hT ⊢; have g3 := (hB3.cell (p := ⟨p, 0, none⟩) hr2.1.lt).trans g0)
              have h3 := h2.pure hB3
              have b3 := b2.pure hB3
              have m3 := m2.trans (hB3.mono m2.size)
              have hr3 := hr2.pure hB3
              have hO2' := Lib.hid hO2
              clear h2 b2 m2 l2 f1 f2 hr2 hrs g0 hO2 hB3
              go_loopw [13] (fun s13 wr => ∃ j : Nat, j ≤ L2.length ∧ s13 = .int .i64 j ∧ Below w3.heap.size w3 wr) (fun s13 _ => L2.length - (intOf s13).toNat)
              case atStart => exact ⟨0, by omega, rfl, Below.refl _ _⟩
              case round =>
                clear g3
                obtain ⟨j, hj, rfl, hBj⟩ := hrel
                have hrj := hr3.pure hBj
                have g0 := hrj.c0
                have hPj := h3.pure hBj
                have mj := m3.trans (hBj.mono m3.size)
                by_cases hltj : j < L2.length
                · have hTj := hT.pure hBj
                  obtain ⟨tg0, to0, rfl⟩ := hTj.addr (k := j) (by simpa using hltj)
                  have t0 := hTj.get j (by simpa using hltj) 0 (.string L2[j].1) (by simp [strEnc])
                  simp only [Nat.add_zero, Nat.mul_one] at t0
                  obtain ⟨rg, ro, rfl⟩ := hrj.slc.addr hltj
                  have u0 := hrj.slc.get j hltj 0 _ rfl
                  have u1 := hrj.slc.get j hltj 1 _ rfl
                  simp only [Nat.add_zero] at u0
                  have hcr := cq_credit (t := L2[j].1) hPj
                  rw [findS_at hO2'.out hltj] at hcr
                  simp only [Option.elim_some, List.getD_eq_getElem?_getD, List.getElem?_eq_getElem hltj, Option.getD_some] at hcr
                  obtain ⟨q0, q1⟩ := hO2'.out.cred _ (List.getElem_mem hltj)
                  have hwr : IntKind.u64.wrap L2[j].2 = L2[j].2 := IntWalk.u64_in _ (by omega)
                  have hj0 : (0 : Int) ≤ (j : Int) := by omega
                  have hj1 : (j : Int) < (L2.length : Int) := by omega
                  have hgl := World.block_lt_of_cell? _ _ u0
                  have hgt := World.block_lt_of_cell? _ _ t0
                  have hpl := hrj.1.lt
                  go_wp2_with (go_at_call 20; refine hcr.mono ?_; clear hcr; rintro e w5 ⟨rfl, hB5⟩; have t5 := (hB5.cell (p := ⟨tg0, to0 + j, none⟩) hgt).trans t0; have u50 := (hB5.cell (p := ⟨rg, ro + j * 2, none⟩) hgl).trans u0; have u51 := (hB5.cell (p := ⟨rg, ro + j * 2 + 1, none⟩) hgl).trans u1; have g5 := (hB5.cell (p := ⟨p, 0, none⟩) hpl).trans g0; clear t0 u0 u1 g0)
                  go_quiet (fail)
                  go_wp2
                  go_roundw
                  case rel => exact ⟨j + 1, by omega, by go_num, below_drewN (hBj.trans (hB5.mono hBj.size)) _⟩
                  case measure => simp [intOf]; omega
                · have hcr := cq_credit (t := tg) hPj
                  have hfi := cr_find (t := tg) hPj
                  have b5 := b3.pure hBj
                  have x1 : wr.cell? ⟨wo.heap.size, 1, none⟩ = some (.string tg) := b5.cell 1
                  have hBl := b5.lt
                  clear g0
                  cases hff : findS L2 tg with
                  | none =>
                    rw [hff] at hcr hfi
                    simp only [idxOf, Option.elim_none] at hcr hfi
                    have hfn := Lib.hid hff; clear hff hfi
                    go_wp2_with (first | (go_at_call 20; refine hcr.mono ?_; clear hcr; rintro e w5 ⟨rfl, hB5⟩; have hP5 := hPj.pure hB5; have x5 := (hB5.cell (p := ⟨wo.heap.size, 1, none⟩) hBl).trans x1; clear x1) | (go_at_call 21; refine (cr_find (t := tg) hP5).mono ?_; rw [hfn.out]; simp only [idxOf]; rintro e w' ⟨rfl, rfl⟩))
                    go_roundw
                    case rel => exact ⟨k + 1, L2, nx2, last2, by omega, by omega, by go_num, hP5.more (fun i hi _ => .inl hi), hO2'.out, by omega, mj.trans (hB5.mono mj.size)⟩
                    case measure => simp [intOf]; omega
                  | some i =>
                    rw [hff] at hcr hfi
                    simp only [idxOf, Option.elim_some] at hcr hfi
                    have hfn := Lib.hid hff; clear hff hfi
                    go_wp2_with (first | (go_at_call 20; refine hcr.mono ?_; clear hcr; rintro e w5 ⟨rfl, hB5⟩; have hP5 := hPj.pure hB5; have x5 := (hB5.cell (p := ⟨wo.heap.size, 1, none⟩) hBl).trans x1; clear x1) | (go_at_call 21; refine (cr_find (t := tg) hP5).mono ?_; rw [hfn.out]; simp only [idxOf]; rintro e w' ⟨rfl, rfl⟩))
                    go_roundw
                    case rel => exact ⟨k + 1, L2, nx2, last2, by omega, by omega, by go_num, hP5.more (fun i hi _ => .inl hi), hO2'.out, by omega, mj.trans (hB5.mono mj.size)⟩
                    case measure => simp [intOf]; omega
            · as_aux_lemma =>
              go_wp2_with fail
              go_wp2_with (first | (go_at_call 11; refine (cq_turn h0 l0 hmayB hnxl hLb hcc.out).mono ?_; rintro e w1 ⟨rfl, h1, k1⟩; obtain ⟨l1, b1, m1⟩ := mid rfl l0 b0 m0 k1; have d1 : (w1).cell? ⟨wo.heap.size, 1, none⟩ = some (.string tg) := b1.cell 1; have d2 : (w1).cell? ⟨wo.heap.size, 2, none⟩ = some (.int .u32 xn) := b1.cell 2; have d3 : (w1).cell? ⟨wo.heap.size, 3, none⟩ = some (.slice ma may.length mc) := b1.cell 3; clear e1 e2 e3; have hmay1 := hmay'.out.pure (m1.mono (Nat.le_refl _)); clear k1) | (go_at_call 17; refine (cr_turn h1 l1 hmay1 hLb hcc.out).mono ?_; rw [← hnx'.out]; rintro e w2 ⟨rfl, h2, k2⟩; obtain ⟨l2, b2, m2⟩ := mid rfl l1 b1 m1 k2; have f1 : (w2).cell? ⟨wo.heap.size, 1, none⟩ = some (.string tg) := b2.cell 1; have f2 : (w2).cell? ⟨wo.heap.size, 2, none⟩ = some (.int .u32 xn) := b2.cell 2; have f3 : (w2).cell? ⟨wo.heap.size, 3, none⟩ = some (.slice ma may.length mc) := b2.cell 3; clear d1 d2 d3; clear k2 h1 l1 b1 m1))
              obtain ⟨L2, hL2⟩ : ∃ L2, L2 = turnL L nx may := ⟨_, rfl⟩
              obtain ⟨nx2, hnx2⟩ : ∃ nx2, nx2 = turnNx L nx may := ⟨_, rfl⟩
              obtain ⟨last2, hlast2⟩ : ∃ last2, last2 = turnLast L nx may last := ⟨_, rfl⟩
              have hO2 := hO.turn (may := may)
              rw [← hL2, ← hnx2, ← hlast2] at hO2
              obtain ⟨hO2, hl2⟩ := hO2
              rw [← hL2, ← hnx2, ← hlast2] at h2
              clear hL2 hnx2 hlast2
              have hLL : L2.length ≤ 1000000 := by omega
              obtain ⟨rv, ru, _, hr2, _⟩ := id h2
              have g0 := hr2.c0
              have hrs := hr2.slc
              obtain ⟨ua, uc, rfl, hum⟩ := hr2.slc.len
              unfold maxLen at hum
              clear f3
              go_wp2_with (go_at_call 19; refine (cq_tags h2 hLL).mono ?_; rintro e w3 ⟨tv, rfl, hT, hB3⟩; obtain ⟨ta, tc, rfl, htm⟩ := hT.len; rw [List.length_map] at hT ⊢; have g3 := (hB3.cell (p := ⟨p, 0, none⟩) hr2.1.lt).trans g0)
              have h3 := h2.pure hB3
              have b3 := b2.pure hB3
              have m3 := m2.trans (hB3.mono m2.size)
              have hr3 := hr2.pure hB3
              have hO2' := Lib.hid hO2
              clear h2 b2 m2 l2 f1 f2 hr2 hrs g0 hO2 hB3
              go_loopw [13] (fun s13 wr => ∃ j : Nat, j ≤ L2.length ∧ s13 = .int .i64 j ∧ Below w3.heap.size w3 wr) (fun s13 _ => L2.length - (intOf s13).toNat)
              case atStart => exact ⟨0, by omega, rfl, Below.refl _ _⟩
              case round =>
                clear g3
                obtain ⟨j, hj, rfl, hBj⟩ := hrel
                have hrj := hr3.pure hBj
                have g0 := hrj.c0
                have hPj := h3.pure hBj
                have mj := m3.trans (hBj.mono m3.size)
                by_cases hltj : j < L2.length
                · have hTj := hT.pure hBj
                  obtain ⟨tg0, to0, rfl⟩ := hTj.addr (k := j) (by simpa using hltj)
                  have t0 := hTj.get j (by simpa using hltj) 0 (.string L2[j].1) (by simp [strEnc])
                  simp only [Nat.add_zero, Nat.mul_one] at t0
                  obtain ⟨rg, ro, rfl⟩ := hrj.slc.addr hltj
                  have u0 := hrj.slc.get j hltj 0 _ rfl
                  have u1 := hrj.slc.get j hltj 1 _ rfl
                  simp only [Nat.add_zero] at u0
                  have hcr := cq_credit (t := L2[j].1) hPj
                  rw [findS_at hO2'.out hltj] at hcr
                  simp only [Option.elim_some, List.getD_eq_getElem?_getD, List.getElem?_eq_getElem hltj, Option.getD_some] at hcr
                  obtain ⟨q0, q1⟩ := hO2'.out.cred _ (List.getElem_mem hltj)
                  have hwr : IntKind.u64.wrap L2[j].2 = L2[j].2 := IntWalk.u64_in _ (by omega)
                  have hj0 : (0 : Int) ≤ (j : Int) := by omega
                  have hj1 : (j : Int) < (L2.length : Int) := by omega
                  have hgl := World.block_lt_of_cell? _ _ u0
                  have hgt := World.block_lt_of_cell? _ _ t0
                  have hpl := hrj.1.lt
                  go_wp2_with (go_at_call 20; refine hcr.mono ?_; clear hcr; rintro e w5 ⟨rfl, hB5⟩; have t5 := (hB5.cell (p := ⟨tg0, to0 + j, none⟩) hgt).trans t0; have u50 := (hB5.cell (p := ⟨rg, ro + j * 2, none⟩) hgl).trans u0; have u51 := (hB5.cell (p := ⟨rg, ro + j * 2 + 1, none⟩) hgl).trans u1; have g5 := (hB5.cell (p := ⟨p, 0, none⟩) hpl).trans g0; clear t0 u0 u1 g0)
                  go_quiet (fail)
                  go_wp2
                  go_roundw
                  case rel => exact ⟨j + 1, by omega, by go_num, below_drewN (hBj.trans (hB5.mono hBj.size)) _⟩
                  case measure => simp [intOf]; omega
                · have hcr := cq_credit (t := tg) hPj
                  have hfi := cr_find (t := tg) hPj
                  have b5 := b3.pure hBj
                  have x1 : wr.cell? ⟨wo.heap.size, 1, none⟩ = some (.string tg) := b5.cell 1
                  have hBl := b5.lt
                  clear g0
                  cases hff : findS L2 tg with
                  | none =>
                    rw [hff] at hcr hfi
                    simp only [idxOf, Option.elim_none] at hcr hfi
                    have hfn := Lib.hid hff; clear hff hfi
                    go_wp2_with (first | (go_at_call 20; refine hcr.mono ?_; clear hcr; rintro e w5 ⟨rfl, hB5⟩; have hP5 := hPj.pure hB5; have x5 := (hB5.cell (p := ⟨wo.heap.size, 1, none⟩) hBl).trans x1; clear x1) | (go_at_call 21; refine (cr_find (t := tg) hP5).mono ?_; rw [hfn.out]; simp only [idxOf]; rintro e w' ⟨rfl, rfl⟩))
                    go_roundw
                    case rel => exact ⟨k + 1, L2, nx2, last2, by omega, by omega, by go_num, hP5.more (fun i hi _ => .inl hi), hO2'.out, by omega, mj.trans (hB5.mono mj.size)⟩
                    case measure => simp [intOf]; omega
                  | some i =>
                    rw [hff] at hcr hfi
                    simp only [idxOf, Option.elim_some] at hcr hfi
                    have hfn := Lib.hid hff; clear hff hfi
                    go_wp2_with (first | (go_at_call 20; refine hcr.mono ?_; clear hcr; rintro e w5 ⟨rfl, hB5⟩; have hP5 := hPj.pure hB5; have x5 := (hB5.cell (p := ⟨wo.heap.size, 1, none⟩) hBl).trans x1; clear x1) | (go_at_call 21; refine (cr_find (t := tg) hP5).mono ?_; rw [hfn.out]; simp only [idxOf]; rintro e w' ⟨rfl, rfl⟩))
                    go_roundw
                    case rel => exact ⟨k + 1, L2, nx2, last2, by omega, by omega, by go_num, hP5.more (fun i hi _ => .inl hi), hO2'.out, by omega, mj.trans (hB5.mono mj.size)⟩
                    case measure => simp [intOf]; omega
      · go_wp2_with (go_at_call 7; refine (head_any _).mono ?_; rintro e w2 ⟨rfl, hT⟩)
        go_ret
        exact ⟨rfl, hB.trans (hT.mono hB.size)⟩
    · go_wp2_with (go_at_call 7; refine (head_any _).mono ?_; rintro e w2 ⟨rfl, hT⟩)
      go_ret
      exact ⟨rfl, hB.trans (hT.mono hB.size)⟩
end Go.Proofs.Ytelebabegbkdnaa
