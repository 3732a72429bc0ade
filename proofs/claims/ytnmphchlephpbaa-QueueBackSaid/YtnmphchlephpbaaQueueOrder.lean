/- The law QueueOrder, walked: it returns true whatever its two rows are, and nothing that was there has changed. Conditions: the arguments read as rows of numbers. -/
import Derived.Test.YtnmphchlephpbaaQueueF
namespace Go.Proofs.Ytnmphchlephpbaa
open Go.RowKit

/-- What the queue must leave alone: what was there at first, and a slice's own block. -/
def XF (B : Nat) (v : Value) (k : Nat) : Prop := k < B ∨ v.ownBlock = some k

/-- Messages have come, none is held. -/
structure OrdA (s : QS) (k : Nat) (id : Int) : Prop where
  lim : s.limit = 100
  kept : s.kept = 0
  len : s.ids.length = k
  last : s.last = id
  own : ∀ i, s.own i = none
  cnt : s.cnt = 0
  id0 : 0 ≤ id
  id1 : id ≤ 65536 * (k : Int)

theorem OrdA.put {s : QS} {k : Nat} {id x : Int} (h : OrdA s k id) (hk : k < 100) (x0 : 0 ≤ x) (x1 : x ≤ 65535) : s.put (id + 1 + x) = (0, s.come (id + 1 + x)) ∧ OrdA (s.come (id + 1 + x)) (k + 1) (id + 1 + x) := by
  have a1 := h.lim
  have a2 := h.kept
  have a3 := h.len
  have a4 := h.last
  have a5 := h.id0
  have a6 := h.id1
  refine ⟨?_, ⟨h.lim, h.kept, ?_, rfl, h.own, h.cnt, by omega, by omega⟩⟩
  · unfold QS.put
    rw [if_neg (by omega), if_neg (by omega)]
  · simp only [QS.come, List.length_append, List.length_singleton]; omega

/-- The first k are held. -/
structure OrdB (L : List Int) (s : QS) (k : Nat) : Prop where
  ids : s.ids = L
  cnt : s.cnt = k
  own : ∀ j, (h : j < L.length) → (s.own L[j]).isSome = decide (j < k)

theorem OrdA.toB {s : QS} {k : Nat} {id : Int} (h : OrdA s k id) : OrdB s.ids s 0 := ⟨rfl, h.cnt, fun j hj => by rw [h.own]; rfl⟩

theorem OrdB.next {L : List Int} {s : QS} {k : Nat} (h : OrdB L s k) (hk : k < L.length) : s.nextAt = some k := by
  unfold QS.nextAt
  rw [h.ids, List.findIdx?_eq_some_iff_getElem]
  refine ⟨hk, ?_, fun j hj => ?_⟩
  · have := h.own k hk
    rw [← Option.not_isSome, this]; simp
  · have := h.own j (by omega)
    rw [← Option.not_isSome, this]; simp [hj]

theorem OrdB.none {L : List Int} {s : QS} (h : OrdB L s L.length) : s.nextAt = none := by
  unfold QS.nextAt
  rw [h.ids, List.findIdx?_eq_none_iff]
  intro x hx
  obtain ⟨j, hj, rfl⟩ := List.getElem_of_mem hx
  rw [← Option.not_isSome, h.own j hj]; simp [hj]

theorem rise_inj {L : List Int} (hL : L.Pairwise (· < ·)) {i j : Nat} (hi : i < L.length) (hj : j < L.length) (h : L[i] = L[j]) : i = j := by
  rcases Nat.lt_trichotomy i j with h1 | h1 | h1
  · have := List.pairwise_iff_getElem.1 hL i j hi hj h1; omega
  · exact h1
  · have := List.pairwise_iff_getElem.1 hL j i hj hi h1; omega

theorem OrdB.hold {L : List Int} {s : QS} {k : Nat} {o : Int} (h : OrdB L s k) (hL : L.Pairwise (· < ·)) (hk : k < L.length) : OrdB L (s.hold L[k] o) (k + 1) := by
  refine ⟨h.ids, ?_, fun j hj => ?_⟩
  · simp only [QS.hold]
    rw [h.own k hk, h.cnt]; simp
  · simp only [QS.hold]
    by_cases hjk : j = k
    · subst hjk; simp
    · rw [if_neg (fun e => hjk (rise_inj hL hj hk e)), h.own j hj]
      simp only [decide_eq_decide]; omega

theorem OrdB.owner {L : List Int} {s : QS} {k : Nat} {o : Int} (h : OrdB L s k) (hk : k < L.length) : (s.hold L[k] o).owner L[k] = (o, 0) := by
  unfold QS.owner
  rw [if_pos (by show L[k] ∈ s.ids; rw [h.ids]; exact List.getElem_mem hk)]
  simp [QS.hold]

set_option maxRecDepth 100000 in
set_option maxHeartbeats 400000 in
theorem order_great (w : World) (v u : Value) (G : List Int) (hG : Slc (intEnc .u16) 1 w v G) (h10 : 100 < G.length) :
    Calls Try.prog 3 #[v, u] w fun e w' => e = .returned (.bool true) ∧ Below w.heap.size w w' := by
  obtain ⟨a, cap, rfl, hm⟩ := hG.len
  clear hG
  go_enter Try.func3, Try.ntmps3
  go_wp2_with (go_at_call 7; refine (head_any _).mono ?_; rintro e w2 ⟨rfl, hB2⟩)
  go_ret
  exact ⟨rfl, hB2⟩

set_option maxRecDepth 100000 in
set_option maxHeartbeats 4000000 in
theorem order_small (w : World) (v u : Value) (G O : List Int) (hG : Slc (intEnc .u16) 1 w v G) (hO : Slc (intEnc .u8) 1 w u O) (h10 : G.length ≤ 100) (hb : ∀ n ∈ G, 0 ≤ n ∧ n ≤ 65535) (hc : ∀ n ∈ O, 0 ≤ n ∧ n ≤ 255) :
    Calls Try.prog 3 #[v, u] w fun e w' => e = .returned (.bool true) ∧ Below w.heap.size w w' := by
  obtain ⟨a, cap, rfl, hmx⟩ := hG.len
  obtain ⟨ao, capo, rfl, hmo⟩ := hO.len
  unfold maxLen at hmo
  go_enter Try.func3, Try.ntmps3
  go_wp2_with (go_at_call 8; refine (newX _ 100 (by omega)).mono ?_; rintro e w1 ⟨rfl, hB1, hR1⟩)
  have hB1s := hB1.size
  go_loopw [6, 7, 8] (fun s6 s7 s8 wr => ∃ (k : Nat) (s : QS) (id : Int), k ≤ G.length ∧ s8 = .int .i64 k ∧ s6 = .int .u64 id ∧ QueX (XF w.heap.size s7) wr (w.heap.size + 1) s ∧ Own w.heap.size 27 1 (intEnc .u64) wr s7 s.ids ∧ Below w.heap.size w wr ∧ OrdA s k id) (fun _ _ s8 _ => G.length - (intOf s8).toNat)
  case atStart => exact ⟨0, QS.new 100, 0, by omega, rfl, rfl, hR1.more (fun k hk _ => hk.elim id (fun h => by simp [Value.ownBlock] at h)), Own.nil, hB1, ⟨rfl, rfl, rfl, rfl, fun _ => rfl, rfl, by omega, by omega⟩⟩
  case round =>
    obtain ⟨k, s, id, hk, rfl, rfl, hR, hL, hB, hA⟩ := hrel
    have hA' := Lib.hid hA
    have hlen := hA.len
    have id0 := hA.id0
    have id1 := hA.id1
    clear hA
    by_cases hlt : k < G.length
    · obtain ⟨g, off, rfl, c0⟩ := (hG.pure (hB.mono (Nat.le_refl _))).load k hlt
      obtain ⟨x, hx⟩ : ∃ x, x = G[k] := ⟨_, rfl⟩
      have hxb : 0 ≤ x ∧ x ≤ 65535 := by rw [hx]; exact hb _ (List.getElem_mem hlt)
      rw [← hx] at c0
      obtain ⟨x0, x1⟩ := hxb
      clear hx
      obtain ⟨p1, p2⟩ := hA'.out.put (by omega) x0 x1
      have hXl : ∀ j, XF w.heap.size u7 j → j < wr.heap.size := by
        intro j hj
        rcases hj with hj | hj
        · have := hB.size; omega
        · exact hL.lt hj
      have hput := putX (id := id + 1 + x) hR hXl (by omega) (by omega)
      rw [p1] at hput
      have hput' := Lib.hid hput
      have p2' := Lib.hid p2
      clear p1 p2 hput
      go_wp2_with fail
      refine hput'.out.mono ?_
      rintro e w2 ⟨rfl, hR2, hK2⟩
      have hL2 := hL.upd hK2 (fun j hj h => h (.inr hj))
      have hB2 : Below w.heap.size w w2 := hB.trans (Upd.below hK2 hB.size (fun j hj => Nat.le_of_not_lt (fun h => hj (.inl h))))
      have hB2s := hB2.size
      clear hR hL hB hK2 hXl c0 hput'
      go_wp2_with (at_builtin; refine wpList_app1 rfl _ _ 28 27 rfl elem_u64 (intEnc_len _) (intEnc_one _) u7 s.ids rfl (hL2.alloc _) w2.heap.size 1 (id + 1 + x) rfl (fun j u hu => ((Blk.new w2 [.int .u64 (id + 1 + x)] 27).cell j).trans hu) (by omega) (by unfold maxLen; omega) (by simp; omega) ?_; intro g' cap' w4 hown hgr hfr)
      go_roundw
      case rel =>
        refine ⟨k + 1, s.come (id + 1 + x), id + 1 + x, by omega, by go_num, rfl, ?_, by rw [hlen] at hown; exact hown, (hB2.alloc hB2s _).grown hgr (by simp; omega) (fun j e => hL2.ge e), p2'.out⟩
        refine (hR2.pure ((Below.refl _ _).alloc (Nat.le_refl _) _)).step (Upd.grown (S := fun j => u7.ownBlock = some j) hgr (fun j e => e)) (fun j hj _ => .inr hj) ?_
        rintro j (hj | hj) hl
        · exact .inl hj
        · simp only [Value.ownBlock, Option.some.injEq] at hj
          subst hj
          rcases hfr with h | h
          · exact .inr h
          · omega
      case measure => simp [intOf]; omega
    · obtain rfl : k = G.length := by omega
      have hB0 := hA'.out.toB
      obtain ⟨L, hLe⟩ : ∃ L, L = s.ids := ⟨_, rfl⟩
      rw [← hLe] at hL hB0 hlen
      have hrise := hR.ok.rise
      have hokL := hR.ok.ok
      have hlast := hR.ok.last.2
      rw [← hLe] at hrise hokL
      obtain ⟨al, capl, rfl, hml⟩ := (hL.slc (intEnc_len _)).len
      rw [hlen] at hL hR
      have hR0 := Lib.hid hR
      have hB0' := Lib.hid hB0
      have hrise' := Lib.hid hrise
      have hokL : ∀ i ∈ L, u64ok i := fun i hi => by have := hokL i hi; unfold u64ok; omega
      have hokL' := Lib.hid hokL
      clear hrise hokL hB0 hR hLe hA' hlast
      rw [hlen]
      go_wp2_with fail
      go_loopw [9] (fun s9 wr => ∃ (k : Nat) (s : QS), k ≤ G.length ∧ s9 = .int .i64 k ∧ QueX (XF w.heap.size (.slice al G.length capl)) wr (w.heap.size + 1) s ∧ Own w.heap.size 27 1 (intEnc .u64) wr (.slice al G.length capl) L ∧ Below w.heap.size w wr ∧ OrdB L s k) (fun s9 _ => G.length - (intOf s9).toNat)
      case atStart => exact ⟨0, s, by omega, rfl, hR0.out, hL, hB, hB0'.out⟩
      case round =>
        clear hL hB hR0 hB0'
        obtain ⟨k, s, hk, rfl, hR, hL, hB, hO1⟩ := hrel
        have hO1' := Lib.hid hO1; clear hO1
        have hXl : ∀ j, XF w.heap.size (.slice al G.length capl) j → j < wr.heap.size := by
          intro j hj
          rcases hj with hj | hj
          · have := hB.size; omega
          · exact hL.lt hj
        have hids := hO1'.out.ids
        have hsl : s.ids.length ≤ 1000000 := by rw [hids]; omega
        by_cases hlt : k < G.length
        · have hkL : k < L.length := by omega
          obtain ⟨gl, offl, rfl, cl⟩ := (hL.slc (intEnc_len _)).load k hkL
          obtain ⟨x, hx⟩ : ∃ x, x = L[k] := ⟨_, rfl⟩
          rw [← hx] at cl
          have hxok : u64ok x := by rw [hx]; exact hokL'.out _ (List.getElem_mem hkL)
          have hkS : k < s.ids.length := by rw [hids]; exact hkL
          have hxs : s.ids[k] = x := by rw [hx]; simp only [hids]
          -- the contracts, for an owner o
          have hnx : ∀ o, 0 < o → Calls Try.prog 10 #[.pointer (some ⟨w.heap.size + 1, 0, none⟩), .int .u64 o] wr fun e w' => e = .returned (.tuple #[.int .u64 x, .bool true]) ∧
              QueX (XF w.heap.size (.slice (some ⟨gl, offl, none⟩) G.length capl)) w' (w.heap.size + 1) (s.hold x o) ∧ Kept (XF w.heap.size (.slice (some ⟨gl, offl, none⟩) G.length capl)) wr w' := by
            intro o ho
            have := nextX_some hR hXl hsl ho hkS (hO1'.out.next hkL)
            rw [hxs] at this
            exact this
          have how : ∀ o, (s.hold x o).owner x = (o, 0) := by intro o; rw [hx]; exact hO1'.out.owner hkL
          have hho : ∀ o, OrdB L (s.hold x o) (k + 1) := by intro o; rw [hx]; exact hO1'.out.hold hrise'.out hkL
          have hcn : ∀ o, ((s.hold x o).ids.length : Int) - (s.hold x o).cnt = G.length - k - 1 := by
            intro o; rw [(hho o).ids, (hho o).cnt, hlen]; omega
          have hnx' := Lib.hid hnx
          have how' := Lib.hid how
          have hho' := Lib.hid hho
          have hcn' := Lib.hid hcn
          clear hnx how hho hcn hx hxs hids
          have hstep : ∀ o, 0 < o → True := fun _ _ => trivial
          by_cases ho : k < O.length
          · obtain ⟨go, offo, rfl, co⟩ := (hO.pure (hB.mono (Nat.le_refl _))).load k ho
            obtain ⟨y, hy⟩ : ∃ y, y = O[k] := ⟨_, rfl⟩
            have hyb : 0 ≤ y ∧ y ≤ 255 := by rw [hy]; exact hc _ (List.getElem_mem ho)
            rw [← hy] at co
            obtain ⟨y0, y1⟩ := hyb
            clear hy
            go_wp2_with fail
            refine (hnx'.out (1 + y) (by omega)).mono ?_
            rintro e w2 ⟨rfl, hR2, hK2⟩
            have hL2 := hL.upd hK2 (fun j hj h => h (.inr hj))
            have hB2 : Below w.heap.size w w2 := hB.trans (Upd.below hK2 hB.size (fun j hj => Nat.le_of_not_lt (fun h => hj (.inl h))))
            have cl2 := (hK2.cell (p := ⟨gl, offl + k, none⟩) (World.block_lt_of_cell? _ _ cl) (fun h => h (.inr rfl))).trans cl
            have hw2 := ownerX (id := x) hR2 hsl hxok
            have hr2 := readyX hR2
            rw [how'.out] at hw2
            rw [hcn'.out] at hr2
            clear hR hL hB hK2 hXl co cl hnx' how' hcn'
            go_wp2_with (first | (go_at_call 11; refine hw2.mono ?_; clear hw2; rintro e w3 ⟨rfl, rfl⟩) | (go_at_call 12; refine hr2.mono ?_; clear hr2; rintro e w3 ⟨rfl, hB3⟩))
            go_roundw
            case rel => exact ⟨k + 1, _, by omega, by go_num, hR2.pure hB3, hL2.pure hB3, hB2.trans (hB3.mono hB2.size), hho'.out _⟩
            case measure => simp [intOf]; omega
          · go_wp2_with fail
            refine (hnx'.out 1 (by omega)).mono ?_
            rintro e w2 ⟨rfl, hR2, hK2⟩
            have hL2 := hL.upd hK2 (fun j hj h => h (.inr hj))
            have hB2 : Below w.heap.size w w2 := hB.trans (Upd.below hK2 hB.size (fun j hj => Nat.le_of_not_lt (fun h => hj (.inl h))))
            have cl2 := (hK2.cell (p := ⟨gl, offl + k, none⟩) (World.block_lt_of_cell? _ _ cl) (fun h => h (.inr rfl))).trans cl
            have hw2 := ownerX (id := x) hR2 hsl hxok
            have hr2 := readyX hR2
            rw [how'.out] at hw2
            rw [hcn'.out] at hr2
            clear hR hL hB hK2 hXl cl hnx' how' hcn'
            go_wp2_with (first | (go_at_call 11; refine hw2.mono ?_; clear hw2; rintro e w3 ⟨rfl, rfl⟩) | (go_at_call 12; refine hr2.mono ?_; clear hr2; rintro e w3 ⟨rfl, hB3⟩))
            go_roundw
            case rel => exact ⟨k + 1, _, by omega, by go_num, hR2.pure hB3, hL2.pure hB3, hB2.trans (hB3.mono hB2.size), hho'.out _⟩
            case measure => simp [intOf]; omega
        · obtain rfl : k = G.length := by omega
          have hn := hO1'.out
          rw [← hlen] at hn
          have hnx := nextX_none (o := 1) hR hsl (by omega) hn.none
          have hnx' := Lib.hid hnx
          clear hn hnx hO1' hids
          go_wp2_with (first | (go_at_call 10; refine hnx'.out.mono ?_; rintro e w2 ⟨rfl, hB2⟩; have hB3 := hB.trans (hB2.mono hB.size)) | (go_at_call 7; refine (head_any _).mono ?_; rintro e w4 ⟨rfl, hB4⟩))
          go_ret
          exact ⟨rfl, hB3.trans (hB4.mono hB3.size)⟩

theorem order_any (w : World) (v u : Value) (G O : List Int) (hG : Slc (intEnc .u16) 1 w v G) (hO : Slc (intEnc .u8) 1 w u O) (hb : ∀ n ∈ G, 0 ≤ n ∧ n ≤ 65535) (hc : ∀ n ∈ O, 0 ≤ n ∧ n ≤ 255) :
    Calls Try.prog 3 #[v, u] w fun e w' => e = .returned (.bool true) ∧ Below w.heap.size w w' := by
  by_cases h : 100 < G.length
  · exact order_great w v u G hG h
  · exact order_small w v u G O hG hO (by omega) hb hc

end Go.Proofs.Ytnmphchlephpbaa
