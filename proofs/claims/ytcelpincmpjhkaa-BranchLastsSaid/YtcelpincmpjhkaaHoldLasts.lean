/- The statement BranchLastsSaid: whatever its arguments are, the law BranchLasts returns true, and leaves its arguments as they were. Conditions: none beyond the statement's own. (Texts joined; the heads of the others stand below.) -/
import Derived.Test.YtcelpincmpjhkaaHW
import Derived.Test.YtcelpincmpjhkaaBrLf
import Derived.Test.YtcelpincmpjhkaaBrNe
import Derived.Test.YtcelpincmpjhkaaHB
import Derived.Test.YtcelpincmpjhkaaRows
import Derived.ProofKit
import Derived.OpenShut

/- The law BranchLasts of chapter 19. Conditions: the calls read as calls; their fields are in their bounds. Written by gen_blasts.py. -/
namespace Go.Proofs.Ytcelpincmpjhkaa
set_option linter.unusedSimpArgs false
set_option linter.unusedVariables false
open Go.RowKit
theorem lc_cells {w : World} {g off n cap k : Nat} {L : List LCall} (h : Slc lcEnc 8 w (.slice (some ⟨g, off, none⟩) n cap) L) (hk : k < L.length) :
    w.cell? ⟨g, off + k * 8, none⟩ = some (.int .u8 L[k].wh) ∧ w.cell? ⟨g, off + k * 8 + 1, none⟩ = some (.int .u64 L[k].se) ∧ w.cell? ⟨g, off + k * 8 + 2, none⟩ = some (.int .u32 L[k].x.1) ∧ w.cell? ⟨g, off + k * 8 + 3, none⟩ = some (.string L[k].x.2.1) ∧ w.cell? ⟨g, off + k * 8 + 4, none⟩ = some (.string L[k].x.2.2) ∧ w.cell? ⟨g, off + k * 8 + 5, none⟩ = some (.bool L[k].ja) ∧ w.cell? ⟨g, off + k * 8 + 6, none⟩ = some (.bool L[k].rb) ∧ w.cell? ⟨g, off + k * 8 + 7, none⟩ = some (.int .u32 L[k].n) :=
  ⟨h.get k hk 0 _ rfl, h.get k hk 1 _ rfl, h.get k hk 2 _ rfl, h.get k hk 3 _ rfl, h.get k hk 4 _ rfl, h.get k hk 5 _ rfl, h.get k hk 6 _ rfl, h.get k hk 7 _ rfl⟩
theorem slc_off {α : Type} {enc : α → List Value} {m : Nat} {w : World} {v : Value} {L : List α} {b : Nat} {a1 a2 : Option Addr} {n1 n2 c1 c2 : Nat} (h : Slc enc m w v L) (hi : ∀ x, ∃ k n, (enc x)[0]? = some (.int k n)) (hb : Blk w b [.slice a1 n1 c1, .slice a2 n2 c2]) (i : Nat) (u : Value) : Slc enc m (w.setCell ⟨b, i, none⟩ u) v L := by
  rcases h with h | ⟨g, off, cap, rfl, h1, h2, h3⟩
  · exact .inl h
  · by_cases hL : L = []
    · subst hL; exact .inr ⟨g, off, cap, rfl, h1, h2, fun i hi => absurd hi (by simp)⟩
    · have hl : 0 < L.length := List.length_pos_iff.2 hL
      have hne : b ≠ g := by
        intro e
        subst e
        obtain ⟨k, n, hk⟩ := hi L[0]
        have h4 := h3 0 hl 0 _ hk
        rw [hb.cell] at h4
        match hoff : off + 0 * m + 0 with
        | 0 => rw [hoff] at h4; simp at h4
        | 1 => rw [hoff] at h4; simp at h4
        | j + 2 => rw [hoff] at h4; simp at h4
      exact Slc.upd (.inr ⟨g, off, cap, rfl, h1, h2, h3⟩) (Upd.set (S := fun k => k = b) (p := ⟨b, i, none⟩) rfl u) (fun k hk e => hne (by simp [Value.ownBlock] at hk; omega))

set_option maxRecDepth 100000 in
set_option maxHeartbeats 16000000 in
theorem branchLasts_any (w : World) (v : Value) (L : List LCall) (hs : Slc lcEnc 8 w v L) (hwf : ∀ c ∈ L, (0 ≤ c.wh ∧ c.wh ≤ 255) ∧ 0 ≤ c.n ∧ c.n ≤ 4294967295) :
    Calls Try.prog 9 #[v] w fun e w' => e = .returned (.bool true) ∧ Below w.heap.size w w' := by
  obtain ⟨la, lc, rfl, hm⟩ := hs.len
  unfold maxLen at hm
  have hT0 := (Below.refl w.heap.size w).alloc (Nat.le_refl _) (.cells #[.slice none 0 0, .slice none 0 0] 25)
  have t0 := Blk.new w [.slice none 0 0, .slice none 0 0] 25
  go_enter Try.func9, Try.ntmps9
  go_wp2
  go_loopw [4] (fun s4 wr => ∃ (k : Nat) (rv av : Value) (R : List Brn) (A : List Asc), k ≤ L.length ∧ k ≤ 60 ∧ s4 = .int .i64 k ∧ Blk wr w.heap.size [rv, av] ∧ Slc brEnc 7 wr rv R ∧ Slc ascEnc 5 wr av A ∧ TabOk R A ∧ LfOk R ∧ R.length ≤ k ∧ A.length ≤ k ∧ Below w.heap.size w wr) (fun s4 _ => L.length - (intOf s4).toNat)
  case atStart => exact ⟨0, _, _, [], [], by omega, by omega, rfl, t0, Slc.nil _ _ _, Slc.nil _ _ _, tab_none, lf_nil, by simp, by simp, hT0⟩
  case round =>
    obtain ⟨k, rv, av, R, A, hk, hk60, rfl, tt, hR, hA, hTab, hl, hRk, hAk, hB⟩ := hrel
    have hTb := Lib.hid hTab; have hlf := Lib.hid hl
    clear hTab hl
    obtain ⟨ra, rc, rfl, -⟩ := hR.len
    obtain ⟨aa, ac, rfl, -⟩ := hA.len
    have ct0 := tt.at 0 rfl; have ct1 := tt.at 1 rfl
    have hk0 : (0 : Int) ≤ (k : Int) := by omega
    by_cases hlt : k < L.length
    rotate_left 1
    · have hkd : decide ((k : Int) < (L.length : Int)) = false := decide_eq_false (by omega)
      go_wp2_with (first | (go_at_call 11; (with_reducible refine (bhead_any _).mono ?_); rintro e w5 ⟨rfl, hB5⟩; have hT5 := hB.trans (hB5.mono hB.size)))
      go_ret
      exact ⟨rfl, hT5⟩
    have hkd : decide ((k : Int) < (L.length : Int)) = true := decide_eq_true (by omega)
    have hk1 : (k : Int) < (L.length : Int) := by omega
    by_cases hlt2 : k < 60
    rotate_left 1
    · have hkd2 : decide ((k : Int) < 60) = false := decide_eq_false (by omega)
      go_wp2_with (first | (go_at_call 11; (with_reducible refine (bhead_any _).mono ?_); rintro e w5 ⟨rfl, hB5⟩; have hT5 := hB.trans (hB5.mono hB.size)))
      go_ret
      exact ⟨rfl, hT5⟩
    have hkd2 : decide ((k : Int) < 60) = true := decide_eq_true (by omega)
    have hsr := hs.pure hB
    obtain ⟨g, off, rfl⟩ := hsr.addr hlt
    obtain ⟨l0, l1, l2, l3, l4, l5, l6, l7⟩ := lc_cells hsr hlt
    obtain ⟨c, hc⟩ : ∃ c, L[k] = c := ⟨_, rfl⟩
    have hw := hwf L[k] (List.getElem_mem hlt)
    rw [hc] at l0 l1 l2 l3 l4 l5 l6 l7 hw
    clear hc
    obtain ⟨wh, se, ⟨xf, xg, xb⟩, ja, rb, n⟩ := c
    simp only at l0 l1 l2 l3 l4 l5 l6 l7 hw
    obtain ⟨⟨hw0, hw1⟩, hn⟩ := hw
    obtain ⟨q, hq⟩ : ∃ q, wh % 10 = q := ⟨_, rfl⟩
    have hq10 : q = 0 ∨ q = 1 ∨ q = 2 ∨ q = 3 ∨ q = 4 ∨ q = 5 ∨ q = 6 ∨ q = 7 ∨ q = 8 ∨ q = 9 := by omega
    have hnx := next_ok hTb.out hlf.out se (xf, xg, xb) ja rb hn q
    obtain ⟨E, hE⟩ : ∃ E, (goD R A se (xf, xg, xb) ja rb n q).2.2.2 = E := ⟨_, rfl⟩
    obtain ⟨p, hN⟩ : ∃ p, nextR R A (goD R A se (xf, xg, xb) ja rb n q) = p := ⟨_, rfl⟩
    obtain ⟨R', A'⟩ := p
    rw [hN, hE] at hnx
    obtain ⟨hT', hl', hR', hA', hf⟩ := hnx
    have hgo := Lib.hid (fun (u : World) (r v : Value) (h1 : Slc brEnc 7 u r R) (h2 : Slc ascEnc 5 u v A) => show Calls Try.prog 45 #[.agg #[r, v], .agg #[.int .u8 wh, .int .u64 se, .int .u32 xf, .string xg, .string xb, .bool ja, .bool rb, .int .u32 n]] u (fun e w' => ∃ rv av y, e = .returned (.tuple #[.agg #[rv, av], .int .u8 y, .int .i64 E]) ∧ Slc brEnc 7 w' rv R' ∧ Slc ascEnc 5 w' av A' ∧ Below u.heap.size u w') from by
      have := goes_any u r v R A ⟨wh, se, (xf, xg, xb), ja, rb, n⟩ h1 h2 (by omega) (by omega) hlf.out hw0 hw1
      unfold GoPost at this
      simp only [hq, hN, hE] at this
      exact this)
    have hTb' := Lib.hid hT'; have hlf' := Lib.hid hl'; have hfh := Lib.hid hf
    have htab' := Lib.hid (tabE_yes hT')
    simp only at hR' hA'
    have hLR' : R'.length ≤ 1000000 := by omega
    have hLA' : A'.length ≤ 1000000 := by omega
    clear hT' hl' hf hE hN hsr
    have hqh := Lib.hid hq10; clear hq10
    have hq10 := hqh; clear hqh
    have cb := Blk.new wr [.int .u8 wh, .int .u64 se, .int .u32 xf, .string xg, .string xb, .bool ja, .bool rb, .int .u32 n] 82
    have hBc := (Below.refl wr.heap.size wr).alloc (Nat.le_refl _) (.cells #[.int .u8 wh, .int .u64 se, .int .u32 xf, .string xg, .string xb, .bool ja, .bool rb, .int .u32 n] 82)
    have hTc := hB.trans (hBc.mono hB.size)
    have cc0 := cb.at 0 rfl; have cc1 := cb.at 1 rfl; have cc2 := cb.at 2 rfl; have cc3 := cb.at 3 rfl; have cc4 := cb.at 4 rfl; have cc5 := cb.at 5 rfl; have cc6 := cb.at 6 rfl; have cc7 := cb.at 7 rfl
    have cv0 := (tt.pure hBc).at 0 rfl; have cv1 := (tt.pure hBc).at 1 rfl
    go_wp2_with (first | (go_at_call 45; (with_reducible refine (hgo.out _ _ _ (hR.pure hBc) (hA.pure hBc)).mono ?_); rintro e w5 ⟨rv5, av5, y5, rfl, hR5, hA5, hB5⟩; obtain ⟨ra5, rc5, rfl, -⟩ := hR5.len; obtain ⟨aa5, ac5, rfl, -⟩ := hA5.len; have t5 := (tt.pure hBc).pure hB5; have c5 := cb.pure hB5; have hO5 := (hR.pure hBc).pure hB5; have hT5 := hTc.trans (hB5.mono hTc.size); have hBu := (Below.refl w5.heap.size w5).alloc (Nat.le_refl _) (.cells #[.slice ra5 R'.length rc5, .slice aa5 A'.length ac5] 25); have t6 := t5.pure hBu; have c6 := c5.pure hBu; have u6 := Blk.new w5 [.slice ra5 R'.length rc5, .slice aa5 A'.length ac5] 25; have hO6 := hO5.pure hBu; have hR6 := hR5.pure hBu; have hA6 := hA5.pure hBu; have hT6 := hT5.trans (hBu.mono hT5.size); clear ct0 ct1 cc0 cc1 cc2 cc3 cc4 cc5 cc6 cc7; have ct0 := t6.at 0 rfl; have ct1 := t6.at 1 rfl; have cc0 := c6.at 0 rfl; have cc1 := c6.at 1 rfl; have cc2 := c6.at 2 rfl; have cc3 := c6.at 3 rfl; have cc4 := c6.at 4 rfl; have cc5 := c6.at 5 rfl; have cc6 := c6.at 6 rfl; have cc7 := c6.at 7 rfl; have cu0 := u6.at 0 rfl; have cu1 := u6.at 1 rfl) | (go_at_call 21; (with_reducible refine (tcheck2 _ _ _ R' A' 0 hR6 hA6 hLR' hLA' htab'.out).mono ?_); rintro e w7 ⟨rfl, hB7⟩; have t7 := t6.pure hB7; have c7 := c6.pure hB7; have u7 := u6.pure hB7; have hO7 := hO6.pure hB7; have hR7 := hR6.pure hB7; have hA7 := hA6.pure hB7; have hT7 := hT6.trans (hB7.mono hT6.size); clear ct0 ct1 cc0 cc1 cc2 cc3 cc4 cc5 cc6 cc7 cu0 cu1; have ct0 := t7.at 0 rfl; have ct1 := t7.at 1 rfl; have cc0 := c7.at 0 rfl; have cc1 := c7.at 1 rfl; have cc2 := c7.at 2 rfl; have cc3 := c7.at 3 rfl; have cc4 := c7.at 4 rfl; have cc5 := c7.at 5 rfl; have cc6 := c7.at 6 rfl; have cc7 := c7.at 7 rfl; have cu0 := u7.at 0 rfl; have cu1 := u7.at 1 rfl))
    clear ct0 ct1 cc0 cc1 cc2 cc3 cc4 cc5 cc6 cc7 cu0 cu1
    go_loopw [9] (fun s9 wi => ∃ m : Nat, m ≤ R.length ∧ s9 = .int .i64 m ∧ Below w7.heap.size w7 wi) (fun s9 _ => R.length - (intOf s9).toNat)
    case atStart => exact ⟨0, by omega, rfl, Below.refl _ _⟩
    case round =>
      obtain ⟨m, hmR, rfl, hBi⟩ := hrel
      have t8 := t7.pure hBi; have c8 := c7.pure hBi; have u8 := u7.pure hBi; have hO8 := hO7.pure hBi; have hR8 := hR7.pure hBi; have hA8 := hA7.pure hBi
      have hT8 := hT7.trans (hBi.mono hT7.size)
      have ct0 := t8.at 0 rfl; have ct1 := t8.at 1 rfl; have cc0 := c8.at 0 rfl; have cc1 := c8.at 1 rfl; have cc2 := c8.at 2 rfl; have cc3 := c8.at 3 rfl; have cc4 := c8.at 4 rfl; have cc5 := c8.at 5 rfl; have cc6 := c8.at 6 rfl; have cc7 := c8.at 7 rfl; have cu0 := u8.at 0 rfl; have cu1 := u8.at 1 rfl
      have hm0 : (0 : Int) ≤ (m : Int) := by omega
      by_cases hlt3 : m < R.length
      rotate_left 1
      · obtain rfl : m = R.length := by omega
        have z0 := t8.frozen 0; have z1 := t8.frozen 1
        go_wp2
        go_roundw
        case rel =>
          have s1 := t8.set 0 (.slice ra5 R'.length rc5)
          exact ⟨k + 1, _, _, R', A', by omega, by omega, by go_num, s1.set 1 (.slice aa5 A'.length ac5), slc_off (slc_off hR8 (fun x => ⟨_, _, rfl⟩) t8 0 _) (fun x => ⟨_, _, rfl⟩) s1 1 _, slc_off (slc_off hA8 (fun x => ⟨_, _, rfl⟩) t8 0 _) (fun x => ⟨_, _, rfl⟩) s1 1 _, hTb'.out, hlf'.out, by omega, by omega, Below.setCell (p := ⟨w.heap.size, 1, none⟩) (Below.setCell (p := ⟨w.heap.size, 0, none⟩) hT8 (Nat.le_refl _) _) (Nat.le_refl _) _⟩
        case measure => simp [intOf]; omega
      have hm1 : (m : Int) < (R.length : Int) := by omega
      obtain ⟨go, offo, rfl⟩ := hO8.addr hlt3
      obtain ⟨r0, r1, r2, r3, r4, r5, r6⟩ := br_cells hO8 hlt3
      have hfb := hfh.out R[m] (List.getElem_mem hlt3)
      obtain ⟨b, hb⟩ : ∃ b, R[m] = b := ⟨_, rfl⟩
      rw [hb] at r0 r1 r2 r3 r4 r5 r6 hfb
      clear hb
      obtain ⟨⟨bf, bg, bh⟩, bs, bw, bt, bl⟩ := b
      simp only at r0 r1 r2 r3 r4 r5 r6 hfb
      have bx := Blk.new wr [.int .u32 bf, .string bg, .string bh, .int .u8 bs, .int .u8 bw, .int .u32 bt, .int .u32 bl] 44
      have hBb := (Below.refl wr.heap.size wr).alloc (Nat.le_refl _) (.cells #[.int .u32 bf, .string bg, .string bh, .int .u8 bs, .int .u8 bw, .int .u32 bt, .int .u32 bl] 44)
      have hBi2 := hBi.trans (hBb.mono hBi.size)
      have nb0 := bx.at 0 rfl; have nb1 := bx.at 1 rfl; have nb2 := bx.at 2 rfl; have nb3 := bx.at 3 rfl; have nb4 := bx.at 4 rfl; have nb5 := bx.at 5 rfl; have nb6 := bx.at 6 rfl
      have cy0 := (u8.pure hBb).at 0 rfl; have cy1 := (u8.pure hBb).at 1 rfl; have cx0 := (c8.pure hBb).at 0 rfl; have cx1 := (c8.pure hBb).at 1 rfl; have cx2 := (c8.pure hBb).at 2 rfl; have cx3 := (c8.pure hBb).at 3 rfl; have cx4 := (c8.pure hBb).at 4 rfl; have cx5 := (c8.pure hBb).at 5 rfl; have cx6 := (c8.pure hBb).at 6 rfl; have cx7 := (c8.pure hBb).at 7 rfl
      by_cases h1 : bs = 1
      · have hsb : (bs == 1) = true := by rw [h1]; rfl
        clear hfb h1
        go_wp2
        go_roundw
        case rel => exact ⟨m + 1, by omega, by go_num, hBi2⟩
        case measure => simp [intOf]; omega
      have hsb : (bs == 1) = false := beq_eq_false_iff_ne.2 h1
      obtain ⟨d, hd⟩ : ∃ d, (findD R' A' (bf, bg, bh)).getD zeroB = d := ⟨_, rfl⟩
      obtain ⟨is, his⟩ : ∃ is, (findD R' A' (bf, bg, bh)).isSome = is := ⟨_, rfl⟩
      have hfind0 := Lib.hid (fun (u : World) (r v : Value) (h1 : Slc brEnc 7 u r R') (h2 : Slc ascEnc 5 u v A') => show Calls Try.prog 18 #[.agg #[r, v], .agg #[.int .u32 bf, .string bg, .string bh]] u (fun e w' => e = .returned (.tuple #[brVal d, .bool is]) ∧ Below u.heap.size u w') from by have := find_fn u r v R' A' (bf, bg, bh) h1 h2 hLR' hLA'; rw [hd, his] at this; exact this)
      have qx := xid_eql
      rcases hfb h1 with hi | ⟨hE0, hx, hmay⟩
      · rw [hi] at hd his
        simp only [Option.getD_some, Option.isSome_some] at hd his
        subst hd
        subst his
        have hfind := hfind0; clear hfind0 hfb hi h1
        have qn := fun (u : World) => br_neq_same u bf bg bh bs bw bt bl
        obtain ⟨eq, heq⟩ : ∃ eq, (xf == bf && (xg == bg && xb == bh)) = eq := ⟨_, rfl⟩
        obtain ⟨s2, hs2⟩ : ∃ s2, (bs == 2) = s2 := ⟨_, rfl⟩
        by_cases hE0 : E = 0
        · have heb : (E == 0) = true := by rw [hE0]; rfl
          clear hE0
          cases eq
          · cases s2
            all_goals
              go_wp2_with (first | (go_at_call 18; (with_reducible refine (hfind.out _ _ _ (hR8.pure hBb) (hA8.pure hBb)).mono ?_); rintro e w9 ⟨rfl, hB9⟩; have hBd := (Below.refl w9.heap.size w9).alloc (Nat.le_refl _) (.cells #[.int .u32 bf, .string bg, .string bh, .int .u8 bs, .int .u8 bw, .int .u32 bt, .int .u32 bl] 44); have b9 := (bx.pure hB9).pure hBd; have c9 := ((c8.pure hBb).pure hB9).pure hBd; have d9 := Blk.new w9 [.int .u32 bf, .string bg, .string bh, .int .u8 bs, .int .u8 bw, .int .u32 bt, .int .u32 bl] 44; have hB10 := (hBi2.trans (hB9.mono hBi2.size)).trans (hBd.mono (hBi2.trans (hB9.mono hBi2.size)).size); clear nb0 nb1 nb2 nb3 nb4 nb5 nb6; have nb0 := b9.at 0 rfl; have nb1 := b9.at 1 rfl; have nb2 := b9.at 2 rfl; have nb3 := b9.at 3 rfl; have nb4 := b9.at 4 rfl; have nb5 := b9.at 5 rfl; have nb6 := b9.at 6 rfl; have cw0 := c9.at 0 rfl; have cw1 := c9.at 1 rfl; have cw2 := c9.at 2 rfl; have cw3 := c9.at 3 rfl; have cw4 := c9.at 4 rfl; have cw5 := c9.at 5 rfl; have cw6 := c9.at 6 rfl; have cw7 := c9.at 7 rfl; have nd0 := d9.at 0 rfl; have nd1 := d9.at 1 rfl; have nd2 := d9.at 2 rfl; have nd3 := d9.at 3 rfl; have nd4 := d9.at 4 rfl; have nd5 := d9.at 5 rfl; have nd6 := d9.at 6 rfl))
              go_roundw
              case rel => exact ⟨m + 1, by omega, by go_num, hB10⟩
              case measure => simp [intOf]; omega
          · rcases hq10.out with rfl | rfl | rfl | rfl | rfl | rfl | rfl | rfl | rfl | rfl
            all_goals
              cases s2
            all_goals
              go_wp2_with (first | (go_at_call 18; (with_reducible refine (hfind.out _ _ _ (hR8.pure hBb) (hA8.pure hBb)).mono ?_); rintro e w9 ⟨rfl, hB9⟩; have hBd := (Below.refl w9.heap.size w9).alloc (Nat.le_refl _) (.cells #[.int .u32 bf, .string bg, .string bh, .int .u8 bs, .int .u8 bw, .int .u32 bt, .int .u32 bl] 44); have b9 := (bx.pure hB9).pure hBd; have c9 := ((c8.pure hBb).pure hB9).pure hBd; have d9 := Blk.new w9 [.int .u32 bf, .string bg, .string bh, .int .u8 bs, .int .u8 bw, .int .u32 bt, .int .u32 bl] 44; have hB10 := (hBi2.trans (hB9.mono hBi2.size)).trans (hBd.mono (hBi2.trans (hB9.mono hBi2.size)).size); clear nb0 nb1 nb2 nb3 nb4 nb5 nb6; have nb0 := b9.at 0 rfl; have nb1 := b9.at 1 rfl; have nb2 := b9.at 2 rfl; have nb3 := b9.at 3 rfl; have nb4 := b9.at 4 rfl; have nb5 := b9.at 5 rfl; have nb6 := b9.at 6 rfl; have cw0 := c9.at 0 rfl; have cw1 := c9.at 1 rfl; have cw2 := c9.at 2 rfl; have cw3 := c9.at 3 rfl; have cw4 := c9.at 4 rfl; have cw5 := c9.at 5 rfl; have cw6 := c9.at 6 rfl; have cw7 := c9.at 7 rfl; have nd0 := d9.at 0 rfl; have nd1 := d9.at 1 rfl; have nd2 := d9.at 2 rfl; have nd3 := d9.at 3 rfl; have nd4 := d9.at 4 rfl; have nd5 := d9.at 5 rfl; have nd6 := d9.at 6 rfl))
              go_roundw
              case rel => exact ⟨m + 1, by omega, by go_num, hB10⟩
              case measure => simp [intOf]; omega
        · have heb : (E == 0) = false := beq_eq_false_iff_ne.2 hE0
          clear hE0
          cases s2
          all_goals
            go_wp2_with (first | (go_at_call 18; (with_reducible refine (hfind.out _ _ _ (hR8.pure hBb) (hA8.pure hBb)).mono ?_); rintro e w9 ⟨rfl, hB9⟩; have hBd := (Below.refl w9.heap.size w9).alloc (Nat.le_refl _) (.cells #[.int .u32 bf, .string bg, .string bh, .int .u8 bs, .int .u8 bw, .int .u32 bt, .int .u32 bl] 44); have b9 := (bx.pure hB9).pure hBd; have c9 := ((c8.pure hBb).pure hB9).pure hBd; have d9 := Blk.new w9 [.int .u32 bf, .string bg, .string bh, .int .u8 bs, .int .u8 bw, .int .u32 bt, .int .u32 bl] 44; have hB10 := (hBi2.trans (hB9.mono hBi2.size)).trans (hBd.mono (hBi2.trans (hB9.mono hBi2.size)).size); clear nb0 nb1 nb2 nb3 nb4 nb5 nb6; have nb0 := b9.at 0 rfl; have nb1 := b9.at 1 rfl; have nb2 := b9.at 2 rfl; have nb3 := b9.at 3 rfl; have nb4 := b9.at 4 rfl; have nb5 := b9.at 5 rfl; have nb6 := b9.at 6 rfl; have cw0 := c9.at 0 rfl; have cw1 := c9.at 1 rfl; have cw2 := c9.at 2 rfl; have cw3 := c9.at 3 rfl; have cw4 := c9.at 4 rfl; have cw5 := c9.at 5 rfl; have cw6 := c9.at 6 rfl; have cw7 := c9.at 7 rfl; have nd0 := d9.at 0 rfl; have nd1 := d9.at 1 rfl; have nd2 := d9.at 2 rfl; have nd3 := d9.at 3 rfl; have nd4 := d9.at 4 rfl; have nd5 := d9.at 5 rfl; have nd6 := d9.at 6 rfl))
            go_roundw
            case rel => exact ⟨m + 1, by omega, by go_num, hB10⟩
            case measure => simp [intOf]; omega
      · have hx2 : bf = xf ∧ bg = xg ∧ bh = xb := by simpa using hx
        obtain ⟨rfl, rfl, rfl⟩ := hx2
        have heb : (E == 0) = true := by rw [hE0]; rfl
        have hg1 := bytes_self bg; have hg2 := bytes_self bh
        obtain ⟨⟨df, dg, dh⟩, ds, dw, dt, dl⟩ := d
        have hfind := hfind0; clear hfind0 hfb hd his hx hE0
        have qn := fun (u : World) => br_neq_any u df bf dg dh bg bh ds dw dt dl bs bw bt bl
        obtain ⟨z, hz⟩ : ∃ z, (!((df == bf && (dg == bg && dh == bh)) && (ds == bs && (dw == bw && (dt == bt && dl == bl))))) = z := ⟨_, rfl⟩
        rw [hz] at qn
        clear hz
        unfold mayC at hmay
        by_cases h2 : bs = 2
        · have hs2 : (bs == 2) = true := by rw [h2]; rfl
          rw [if_pos h2] at hmay
          clear h1 h2
          rcases hmay with rfl | rfl | rfl
          all_goals
            cases is <;> cases z
          all_goals
            go_wp2_with (first | (go_at_call 18; (with_reducible refine (hfind.out _ _ _ (hR8.pure hBb) (hA8.pure hBb)).mono ?_); rintro e w9 ⟨rfl, hB9⟩; have hBd := (Below.refl w9.heap.size w9).alloc (Nat.le_refl _) (.cells #[.int .u32 df, .string dg, .string dh, .int .u8 ds, .int .u8 dw, .int .u32 dt, .int .u32 dl] 44); have b9 := (bx.pure hB9).pure hBd; have c9 := ((c8.pure hBb).pure hB9).pure hBd; have d9 := Blk.new w9 [.int .u32 df, .string dg, .string dh, .int .u8 ds, .int .u8 dw, .int .u32 dt, .int .u32 dl] 44; have hB10 := (hBi2.trans (hB9.mono hBi2.size)).trans (hBd.mono (hBi2.trans (hB9.mono hBi2.size)).size); clear nb0 nb1 nb2 nb3 nb4 nb5 nb6; have nb0 := b9.at 0 rfl; have nb1 := b9.at 1 rfl; have nb2 := b9.at 2 rfl; have nb3 := b9.at 3 rfl; have nb4 := b9.at 4 rfl; have nb5 := b9.at 5 rfl; have nb6 := b9.at 6 rfl; have cw0 := c9.at 0 rfl; have cw1 := c9.at 1 rfl; have cw2 := c9.at 2 rfl; have cw3 := c9.at 3 rfl; have cw4 := c9.at 4 rfl; have cw5 := c9.at 5 rfl; have cw6 := c9.at 6 rfl; have cw7 := c9.at 7 rfl; have nd0 := d9.at 0 rfl; have nd1 := d9.at 1 rfl; have nd2 := d9.at 2 rfl; have nd3 := d9.at 3 rfl; have nd4 := d9.at 4 rfl; have nd5 := d9.at 5 rfl; have nd6 := d9.at 6 rfl))
            go_roundw
            case rel => exact ⟨m + 1, by omega, by go_num, hB10⟩
            case measure => simp [intOf]; omega
        · have hs2 : (bs == 2) = false := beq_eq_false_iff_ne.2 h2
          rw [if_neg h2] at hmay
          subst hmay
          clear h1 h2
          cases is <;> cases z
          all_goals
            go_wp2_with (first | (go_at_call 18; (with_reducible refine (hfind.out _ _ _ (hR8.pure hBb) (hA8.pure hBb)).mono ?_); rintro e w9 ⟨rfl, hB9⟩; have hBd := (Below.refl w9.heap.size w9).alloc (Nat.le_refl _) (.cells #[.int .u32 df, .string dg, .string dh, .int .u8 ds, .int .u8 dw, .int .u32 dt, .int .u32 dl] 44); have b9 := (bx.pure hB9).pure hBd; have c9 := ((c8.pure hBb).pure hB9).pure hBd; have d9 := Blk.new w9 [.int .u32 df, .string dg, .string dh, .int .u8 ds, .int .u8 dw, .int .u32 dt, .int .u32 dl] 44; have hB10 := (hBi2.trans (hB9.mono hBi2.size)).trans (hBd.mono (hBi2.trans (hB9.mono hBi2.size)).size); clear nb0 nb1 nb2 nb3 nb4 nb5 nb6; have nb0 := b9.at 0 rfl; have nb1 := b9.at 1 rfl; have nb2 := b9.at 2 rfl; have nb3 := b9.at 3 rfl; have nb4 := b9.at 4 rfl; have nb5 := b9.at 5 rfl; have nb6 := b9.at 6 rfl; have cw0 := c9.at 0 rfl; have cw1 := c9.at 1 rfl; have cw2 := c9.at 2 rfl; have cw3 := c9.at 3 rfl; have cw4 := c9.at 4 rfl; have cw5 := c9.at 5 rfl; have cw6 := c9.at 6 rfl; have cw7 := c9.at 7 rfl; have nd0 := d9.at 0 rfl; have nd1 := d9.at 1 rfl; have nd2 := d9.at 2 rfl; have nd3 := d9.at 3 rfl; have nd4 := d9.at 4 rfl; have nd5 := d9.at 5 rfl; have nd6 := d9.at 6 rfl))
            go_roundw
            case rel => exact ⟨m + 1, by omega, by go_num, hB10⟩
            case measure => simp [intOf]; omega
end Go.Proofs.Ytcelpincmpjhkaa

/- The law BranchLasts from its arguments as they are read. Conditions: none. -/
namespace Go.Proofs.Ytcelpincmpjhkaa
set_option linter.unusedSimpArgs false
set_option linter.unusedVariables false
open Go.ChangeShapes Go.WideShapes Go.ChangeAt Go.RowKit
set_option maxRecDepth 100000
section
variable {H : Type} {enc : TypeId × Value → H} {w : World} {base : Nat} {spare : Nat → Bool} {held : Bool}
theorem open_lcall (n : Nat) (cs : List Value) (y : DataW H × List MemPlace)
    (h : DataW.trod enc Try.prog w base spare held n 82 cs = some y) : ∃ x : LCall, cs = lcEnc x ∧ ((0 ≤ x.wh ∧ x.wh ≤ 255) ∧ 0 ≤ x.n ∧ x.n ≤ 4294967295) := by
  obtain ⟨hl, m, hf⟩ := open_fields Try.underlying82 h
  have hc : Try.prog.cellsOf 82 = 8 := by kernel_rfl
  have c64 : Try.prog.cellsOf 29 = 1 := by kernel_rfl
  have c8 : Try.prog.cellsOf 5 = 1 := by kernel_rfl
  have c32 : Try.prog.cellsOf 26 = 1 := by kernel_rfl
  have cb : Try.prog.cellsOf 4 = 1 := by kernel_rfl
  rw [hc] at hl
  match cs, hl with
  | [c0, c1, c2, c3, c4, c5, c6, c7], _ =>
    obtain ⟨a0, rfl, w0⟩ := field_int Try.underlying5 c8 (o := 0) (c := c0) rfl (hf 0 _ rfl)
    obtain ⟨a1, rfl, w1⟩ := field_int Try.underlying29 c64 (o := 1) (c := c1) rfl (hf 1 _ rfl)
    obtain ⟨z, hz⟩ := hf 2 _ rfl
    have hz' : DataW.trod enc Try.prog w base spare held m 28 (([Value.int .u8 a0, .int .u64 a1, c2, c3, c4, c5, c6, c7].drop 2).take (Try.prog.cellsOf 28)) = some z := hz
    rw [cells_xid] at hz'
    obtain ⟨x, hx⟩ := open_xid m _ _ hz'
    obtain ⟨a5, rfl⟩ := field_bool Try.underlying4 cb (o := 5) (c := c5) rfl (hf 3 _ rfl)
    obtain ⟨a6, rfl⟩ := field_bool Try.underlying4 cb (o := 6) (c := c6) rfl (hf 4 _ rfl)
    obtain ⟨a7, rfl, w7⟩ := field_int Try.underlying26 c32 (o := 7) (c := c7) rfl (hf 5 _ rfl)
    have hx' : [c2, c3, c4] = xidCells x := hx
    simp only [xidCells, List.cons.injEq, and_true] at hx'
    obtain ⟨rfl, rfl, rfl⟩ := hx'
    exact ⟨⟨a0, a1, x, a5, a6, a7⟩, rfl, bounds_u8 w0, bounds_u32 w7⟩
end
theorem branchLasts_args {H : Type} (enc : TypeId × Value → H) (W : World) {base : Nat} (v0 : Value) (d0 : DataW H) (p0 : List MemPlace)
    (h0 : DataW.Trod enc Try.prog W 0 (fun _ => true) true 80 v0 d0 p0)
    (k0 : Value.okWide Try.prog W .any base 80 v0) {S : Prop} (_ : S) :
    Calls Try.prog 9 #[v0] W fun e w' => e = .returned (.bool true) ∧ Below W.heap.size W w' := by
  obtain ⟨a, len, cap, rfl⟩ := okWide_slice Try.underlying80 k0
  obtain ⟨L, hL, hw⟩ := open_slc (ρ := lcEnc) (Wf := fun x => (0 ≤ x.wh ∧ x.wh ≤ 255) ∧ 0 ≤ x.n ∧ x.n ≤ 4294967295) Try.underlying80 (show Try.prog.cellsOf 82 = 8 by kernel_rfl) (by omega) (fun n cs y hy => open_lcall n cs y hy) ⟨_, _, _, rfl⟩ h0
  exact branchLasts_any W _ L hL hw
end Go.Proofs.Ytcelpincmpjhkaa

/- The statement BranchLastsSaid: whatever its arguments are, the law BranchLasts returns true, and leaves its arguments as they were. Conditions: none beyond the statement's own. -/
namespace Go.Proofs.Ytcelpincmpjhkaa.holdBranchLasts
open Go.ChangeShapes Go.WideShapes Go.ChangeAt Go.RowKit

theorem ownK : ownKnob Try.prog.godebug = none := by kernel_rfl
theorem laid : laidOutB Try.prog = true := by kernel_rfl

set_option maxRecDepth 100000 in
set_option maxHeartbeats 1000000 in
theorem lifted (os : Os) (started : os.Started) (H : Type) (enc : TypeId × Value → H) :
    ReturnsInHanded {} Try.checked os 9 .any (Rows.branchLastsSpec.pre6 enc Try.prog Try.f9 Rows.branchLastsRow.domain false) (Rows.branchLastsSpec.post enc Try.prog Try.f9 false true false false) := by
  refine returnsInHanded_of_change_sized (C := Try.checked) ownK started (by kernel_rfl) Try.func9
    (ChangeSpec.witness6 (enc := enc) (C := Try.checked) false ⟨#[], #[.slice none 0 0], []⟩ 8 (by kernel_rfl) (by kernel_rfl) (by kernel_rfl) (by kernel_rfl)) ?_
  intro W base args ds gs before hval0 hW _ hsz0 _
  have hsz : (DataW.weightsEach Try.prog (Try.f9.params.toList ++ Rows.branchLastsSpec.plain.varTypes Try.prog) (ds ++ gs)).all (· ≤ reachBytes) = true := hsz0
  clear hsz0
  have hval : ∀ (j : Nat) t v, Try.f9.params[j]? = some t → args[j]? = some v → Value.okWide Try.prog W .any base t v := hval0
  have hW' := hW
  obtain ⟨p, q, hA0, hV, rfl, hfz, hnd⟩ := hW
  have hA : DataW.TrodAll enc Try.prog W 0 (fun _ => true) true Try.f9.params.toList args.toList ds p := hA0
  rw [Try.params9] at hA hval hsz
  obtain ⟨v0, vs0, d0, ds0, p0, q0, hargs, rfl, rfl, h0, r0⟩ := trodAll_cons hA
  obtain ⟨rfl, rfl, rfl⟩ := trodAll_nil r0
  obtain rfl : args = #[v0] := by cases args; simp_all
  obtain ⟨rfl, rfl⟩ := trodVars_none hV
  have k0 := hval 0 80 v0 rfl rfl
  clear hA0 hval0 hval
  simp only [List.append_nil] at hW'
  have hlt : ∀ x ∈ p0, x.block < W.heap.size := fun x hx => by simpa using hW'.lt x (by simpa using hx)
  have g0 : ∀ W', Below W.heap.size W W' → DataW.Trod enc Try.prog W' 0 (fun b => decide (b < W.heap.size)) true 80 v0 d0 p0 := fun W' hn => Below.trod laid (by kernel_rfl) (of_decide_eq_true (by kernel_rfl)) h0 hn (fun x hx => hlt x (by simp [hx]))
  refine (branchLasts_args enc W v0 d0 p0 h0 k0 hsz).mono fun e W' ⟨he, hb⟩ => ?_
  subst he
  exact ⟨_, rfl, _, _, _, [], _, [], hW', trodAll_cons_mk (shut_bool Try.underlying4 _) trodAll_mk0, (trodAll_cons_mk (g0 _ hb) trodAll_mk0), rfl, hb.frame _, fun h => by cases h⟩

/-- The statement. -/
theorem proved : Rows.BranchLastsSaid :=
  OpenClaim.holds_of_wide 9 Try.f9 rfl rfl rfl rfl rfl rfl rfl ⟨rfl, rfl, rfl, rfl, rfl⟩ rfl rfl rfl rfl rfl (by kernel_rfl) Try.func9 (by kernel_rfl)
    (of_decide_eq_true (by kernel_rfl)) (by unfold Func.isWrapper; first | (rw [if_pos (by decide +kernel)]; kernel_rfl) | (rw [if_neg (by decide +kernel)]; exact ⟨rfl, rfl⟩))
    (fun os started H enc _ => lifted os started H enc)
#print axioms proved
end Go.Proofs.Ytcelpincmpjhkaa.holdBranchLasts
namespace Go.Proofs.Ytcelpincmpjhkaa
set_option linter.unusedSimpArgs false
set_option linter.unusedVariables false
theorem branchLasts_holds : Rows.BranchLastsSaid := holdBranchLasts.proved
#print axioms branchLasts_holds
end Go.Proofs.Ytcelpincmpjhkaa
