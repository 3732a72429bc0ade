/- Values: which may be, the document's side. Conditions: none. Written by gen_valN.py. (Texts joined.) -/
import Derived.Test.YtlonokcaddpniaaGreatDoorKC
import Derived.Test.YtlonokcaddpniaaGreatDoorKU
set_option linter.unusedSimpArgs false
set_option linter.unusedVariables false
namespace Go.Proofs.YtlonokcaddpniaaGreatDoor
open Go.RowKit
theorem cnt_ge : ∀ (v : V) (n : Int), 0 ≤ n → -1 ≤ v.cnt n := by
  intro v
  induction v using V.ind with
  | h k n s ks l ih =>
    intro m hm; unfold V.cnt
    have hL : ∀ (l : List V), (∀ t ∈ l, ∀ n : Int, 0 ≤ n → -1 ≤ t.cnt n) → ∀ m : Int, -1 ≤ m → -1 ≤ V.cntL l m := by
      intro l
      induction l with
      | nil => intro _ m h; unfold V.cntL; exact h
      | cons x xs ihx =>
        intro h m hm; unfold V.cntL; split
        · exact hm
        · exact ihx (fun t ht => h t (List.mem_cons_of_mem _ ht)) _ (h x (List.mem_cons_self ..) m (by omega))
    exact hL l ih (m - 1) (by omega)
theorem cntL_step {l : List V} {k : Nat} (hk : k < l.length) {m : Int} (hm : 0 ≤ m) : V.cntL (l.drop k) m = V.cntL (l.drop (k + 1)) (l[k].cnt m) := by
  rw [List.drop_eq_getElem_cons hk]
  conv => lhs; unfold V.cntL
  rw [if_neg (by omega)]
theorem cntL_done {l : List V} {k : Nat} (hk : l.length ≤ k) (m : Int) : V.cntL (l.drop k) m = m := by
  rw [List.drop_eq_nil_of_le hk]; unfold V.cntL; rfl
theorem cnt_mk {t : VT} (n : Int) : t.v.cnt n = V.cntL (t.l.map VT.v) (n - 1) := by rw [VT.v_eq]; unfold V.cnt; rfl
set_option maxRecDepth 100000 in
set_option maxHeartbeats 1600000 in
theorem dleft_any (t : VT) : ∀ (P : Nat → Prop) (w : World) (n : Int), Rd P w t → 0 ≤ n → n ≤ 1000000 →
    Calls Tryz.prog 71 #[t.arg, .int .i64 n] w fun e w' => e = .returned (.int .i64 (t.v.cnt n)) ∧ Below w.heap.size w w' := by
  induction t using VT.ind with
  | h t ih =>
    intro P w n hR hn0 hn1; obtain ⟨tk, tn, ts, ka, kc, la, lc, ks, l, rfl, hK, hL, hmk, hml⟩ := hR.open; rw [VT.arg_mk, cnt_mk]; obtain ⟨tot, htot⟩ : ∃ tot, V.cntL ((VT.mk tk tn ts (.slice ka ks.length kc) (.slice la l.length lc) ks l).l.map VT.v) (n - 1) = tot := ⟨_, rfl⟩
    have htot' : Hid (V.cntL (l.map VT.v) (n - 1) = tot) := Lib.hid htot; rw [htot]; have hsub : ∀ x ∈ l, Rd P w x := hR.sub
    have ih' : ∀ x ∈ l, ∀ (P : Nat → Prop) (w : World) (n : Int), Rd P w x → 0 ≤ n → n ≤ 1000000 → Calls Tryz.prog 71 #[x.arg, .int .i64 n] w fun e w' => e = .returned (.int .i64 (x.v.cnt n)) ∧ Below w.heap.size w w' := ih
    clear htot ih hR; have ihh := Lib.hid ih'; have hsubh := Lib.hid hsub; clear ih' hsub; have hB0 := (Below.refl w.heap.size w).alloc (Nat.le_refl _) (.cells #[.int .u8 tk, .int .u64 tn, .string ts, .slice ka ks.length kc, .slice la l.length lc] 31); have b0 := Blk.new w [.int .u8 tk, .int .u64 tn, .string ts, .slice ka ks.length kc, .slice la l.length lc] 31; have c4 := b0.at 4 rfl; go_enter Tryz.func71, Tryz.ntmps71; go_wp2; go_loopw [1, 5] (fun s1 s5 wr => ∃ (k : Nat) (m : Int), k ≤ l.length ∧ s5 = .int .i64 k ∧ s1 = .int .i64 m ∧ -1 ≤ m ∧ m ≤ n ∧ V.cntL ((l.map VT.v).drop k) m = tot ∧ Blk wr w.heap.size [.int .u8 tk, .int .u64 tn, .string ts, .slice ka ks.length kc, .slice la l.length lc] ∧ Below w.heap.size w wr) (fun _ s5 _ => l.length - (intOf s5).toNat)
    case atStart => exact ⟨0, n - 1, by omega, rfl, rfl, by omega, by omega, htot'.out, b0, hB0⟩
    case round =>
      clear c4 b0 hB0; obtain ⟨k, m, hk, rfl, rfl, hm0, hm1, hc, b, hB⟩ := hrel; have hc' := Lib.hid hc; clear hc; have c4 := b.at 4 rfl; by_cases hlt : k < l.length
      · by_cases hneg : m < 0
        · have hres := Lib.hid (show m = tot by rw [← hc'.out, cntL_neg _ hneg]); have h1 : (k : Int) < (l.length : Int) := by omega
          have h2 : decide (0 ≤ m) = false := decide_eq_false (by omega); go_wp2; go_ret; exact ⟨by rw [hres.out]; rfl, hB⟩
        · have hm : 0 ≤ m := by omega
          have hLk := hL.pure hB; obtain ⟨g, off, rfl⟩ := hLk.addrB hlt; have hRk := (hsubh.out l[k] (List.getElem_mem hlt)).pure hB; obtain ⟨xk, xn, xs, xka, xkl, xkc, xla, xll, xlc, xks, xl, hx, q0, q1, q2, q3, q4⟩ := v_elem hLk hlt hRk; have hi := ihh.out l[k] (List.getElem_mem hlt) P _ m hRk hm (by omega); have hge := cnt_ge l[k].v m hm; have hlt2 := cnt_lt l[k].v m; have hst := Lib.hid (show V.cntL ((l.map VT.v).drop (k + 1)) (l[k].v.cnt m) = tot by rw [← hc'.out, cntL_step (by simpa using hlt) hm, List.getElem_map]); rw [hx, VT.arg_mk] at hi; have hx' := Lib.hid hx; obtain ⟨y, hy⟩ : ∃ y, l[k].v.cnt m = y := ⟨_, rfl⟩
          rw [← hx, hy] at hi; rw [hy] at hge hlt2 hst; have hih := Lib.hid hi; clear hi hx hy hneg; have h1 : (k : Int) < (l.length : Int) := by omega
          go_wp2_with (go_at_call 71; (with_reducible refine hih.out.mono ?_); rintro e w1 ⟨rfl, hB1⟩; have hB2 := hB.trans (hB1.mono hB.size)); go_roundw
          case rel => exact ⟨k + 1, y, by omega, by go_num, rfl, hge, by omega, hst.out, b.pure hB1, hB2⟩
          case measure => simp [intOf]; omega
      · obtain rfl : k = l.length := by omega
        have hres := Lib.hid (show m = tot by rw [← hc'.out, cntL_done (by simp)]); go_wp2; go_ret; exact ⟨by rw [hres.out]; rfl, hB⟩
theorem deep_succ {l : List V} {d : Nat} {k n : Int} {s : ByteArray} {ks : List ByteArray} : (V.mk k n s ks l).deep (d + 1) = l.any (V.deep d) := by conv => lhs; unfold V.deep
theorem deep_any_iff {l : List VT} {d : Nat} {tk tn : Int} {ts : ByteArray} {kv lv : Value} {ks : List ByteArray} : (VT.mk tk tn ts kv lv ks l).v.deep (d + 1) = l.any (fun x => x.v.deep d) := by
  rw [VT.v_eq, deep_succ]; show (l.map VT.v).any (V.deep d) = _
  rw [List.any_map]; rfl
set_option maxRecDepth 100000 in
set_option maxHeartbeats 1600000 in
theorem dtoodeep_any (t : VT) : ∀ (P : Nat → Prop) (w : World) (d : Nat), Rd P w t → d ≤ 1000000 → Calls Tryz.prog 72 #[t.arg, .int .i64 d] w fun e w' => e = .returned (.bool (t.v.deep d)) ∧ Below w.heap.size w w' := by
  induction t using VT.ind with
  | h t ih =>
    intro P w d hR hd; have hR0 := hR; obtain ⟨tk, tn, ts, ka, kc, la, lc, ks, l, rfl, hK, hL, hmk, hml⟩ := hR.open; rw [VT.arg_mk]; have hsub : ∀ x ∈ l, Rd P w x := hR.sub
    have ih' : ∀ x ∈ l, ∀ (P : Nat → Prop) (w : World) (d : Nat), Rd P w x → d ≤ 1000000 → Calls Tryz.prog 72 #[x.arg, .int .i64 d] w fun e w' => e = .returned (.bool (x.v.deep d)) ∧ Below w.heap.size w w' := ih
    have ihh := Lib.hid ih'; have hsubh := Lib.hid hsub; have hbn0 : 0 ≤ tn := hR.n0; have hbn1 := Lib.hid (show tn < 18446744073709551616 from hR.n1); have hbk0 : 0 ≤ tk := hR.k0; have hbk1 : tk < 256 := hR.k1; have hRh := Lib.hid hR0; clear ih ih' hsub hR hR0; have hB0 := (Below.refl w.heap.size w).alloc (Nat.le_refl _) (.cells #[.int .u8 tk, .int .u64 tn, .string ts, .slice ka ks.length kc, .slice la l.length lc] 31); have b0 := Blk.new w [.int .u8 tk, .int .u64 tn, .string ts, .slice ka ks.length kc, .slice la l.length lc] 31; have c4 := b0.at 4 rfl
    cases d with
    | zero =>
      have hz : (VT.mk tk tn ts (.slice ka ks.length kc) (.slice la l.length lc) ks l).v.deep 0 = true := by unfold V.deep; rfl
      rw [hz]; clear hz; go_enter Tryz.func72, Tryz.ntmps72; go_wp2; go_ret; exact ⟨rfl, hB0⟩
    | succ d =>
      rw [deep_any_iff]; obtain ⟨tot, htot⟩ : ∃ tot, l.any (fun x => x.v.deep d) = tot := ⟨_, rfl⟩
      have htot' := Lib.hid htot; rw [htot]; clear htot; have hne : (((d + 1 : Nat) : Int) == 0) = false := beq_eq_false_iff_ne.2 (by omega); obtain ⟨n, hn⟩ : ∃ n : Int, n = ((d + 1 : Nat) : Int) := ⟨_, rfl⟩
      rw [← hn] at hne ⊢; have hn1 := Lib.hid (show n - 1 = (d : Int) by omega); have hn2 : 1 ≤ n := by omega
      have hn3 : n ≤ 1000000 := by omega
      clear hn; go_enter Tryz.func72, Tryz.ntmps72; go_wp2; go_loopw [5] (fun s5 wr => ∃ k : Nat, k ≤ l.length ∧ s5 = .int .i64 k ∧ Hid (∀ j, (h : j < l.length) → j < k → l[j].v.deep d = false) ∧ Blk wr w.heap.size [.int .u8 tk, .int .u64 tn, .string ts, .slice ka ks.length kc, .slice la l.length lc] ∧ Below w.heap.size w wr) (fun s5 _ => l.length - (intOf s5).toNat)
      case atStart => exact ⟨0, by omega, rfl, Lib.hid (fun j h h0 => absurd h0 (by omega)), b0, hB0⟩
      case round =>
        clear c4 b0 hB0; obtain ⟨k, hk, rfl, hno, b, hB⟩ := hrel; have c4 := b.at 4 rfl; by_cases hlt : k < l.length
        · have h1 : (k : Int) < (l.length : Int) := by omega
          have hLk := hL.pure hB; obtain ⟨g, off, rfl⟩ := hLk.addrB hlt; have hRk := (hsubh.out l[k] (List.getElem_mem hlt)).pure hB; obtain ⟨xk, xn, xs, xka, xkl, xkc, xla, xll, xlc, xks, xl, hx, q0, q1, q2, q3, q4⟩ := v_elem hLk hlt hRk; have hi := ihh.out l[k] (List.getElem_mem hlt) P _ d hRk (by omega); obtain ⟨r, hr⟩ : ∃ r, l[k].v.deep d = r := ⟨_, rfl⟩
          rw [hr, hx, VT.arg_mk] at hi; rw [← hn1.out] at hi; have hrh := Lib.hid hr; have hih := Lib.hid hi; clear hi hr hx; cases r
          · go_wp2_with (go_at_call 72; (with_reducible refine hih.out.mono ?_); rintro e w1 ⟨rfl, hB1⟩; have hB2 := hB.trans (hB1.mono hB.size)); go_roundw
            case rel => exact ⟨k + 1, by omega, by go_num, Lib.hid (fun j h h0 => by
              rcases Nat.lt_or_ge j k with h' | h'
              · exact hno.out j h h'
              · obtain rfl : j = k := by omega
                exact hrh.out), b.pure hB1, hB2⟩
            case measure => simp [intOf]; omega
          · have hres := Lib.hid (show tot = true by rw [← htot'.out]; exact List.any_eq_true.2 ⟨_, List.getElem_mem hlt, hrh.out⟩); go_wp2_with (go_at_call 72; (with_reducible refine hih.out.mono ?_); rintro e w1 ⟨rfl, hB1⟩; have hB2 := hB.trans (hB1.mono hB.size)); go_ret; exact ⟨by rw [hres.out]; rfl, hB2⟩
        · obtain rfl : k = l.length := by omega
          have hres := Lib.hid (show tot = false by
            rw [← htot'.out]; refine List.any_eq_false.2 (fun x hx => ?_); obtain ⟨j, hj, rfl⟩ := List.getElem_of_mem hx
            simp [hno.out j hj hj])
          go_wp2; go_ret; exact ⟨by rw [hres.out]; rfl, hB⟩
set_option maxRecDepth 100000 in
set_option maxHeartbeats 1600000 in
theorem count_any (t : VT) : ∀ (P : Nat → Prop) (w : World) (n : Int), Rd P w t → 0 ≤ n → n ≤ 1000000 → Calls Tryz.prog 151 #[t.arg, .int .i64 n] w fun e w' => e = .returned (.int .i64 (t.v.cnt n)) ∧ Below w.heap.size w w' := by
  induction t using VT.ind with
  | h t ih =>
    intro P w n hR hn0 hn1; have hR0 := hR; obtain ⟨tk, tn, ts, ka, kc, la, lc, ks, l, rfl, hK, hL, hmk, hml⟩ := hR.open; rw [VT.arg_mk]; have hsub : ∀ x ∈ l, Rd P w x := hR.sub
    have ih' : ∀ x ∈ l, ∀ (P : Nat → Prop) (w : World) (n : Int), Rd P w x → 0 ≤ n → n ≤ 1000000 → Calls Tryz.prog 151 #[x.arg, .int .i64 n] w fun e w' => e = .returned (.int .i64 (x.v.cnt n)) ∧ Below w.heap.size w w' := ih
    have ihh := Lib.hid ih'; have hsubh := Lib.hid hsub; have hbn0 : 0 ≤ tn := hR.n0; have hbn1 := Lib.hid (show tn < 18446744073709551616 from hR.n1); have hbk0 : 0 ≤ tk := hR.k0; have hbk1 : tk < 256 := hR.k1; have hRh := Lib.hid hR0; clear ih ih' hsub hR hR0; have hB0 := (Below.refl w.heap.size w).alloc (Nat.le_refl _) (.cells #[.int .u8 tk, .int .u64 tn, .string ts, .slice ka ks.length kc, .slice la l.length lc] 31); have b0 := Blk.new w [.int .u8 tk, .int .u64 tn, .string ts, .slice ka ks.length kc, .slice la l.length lc] 31; have c4 := b0.at 4 rfl; rw [cnt_mk]; obtain ⟨tot, htot⟩ : ∃ tot, V.cntL ((VT.mk tk tn ts (.slice ka ks.length kc) (.slice la l.length lc) ks l).l.map VT.v) (n - 1) = tot := ⟨_, rfl⟩
    have htot' : Hid (V.cntL (l.map VT.v) (n - 1) = tot) := Lib.hid htot; rw [htot]; clear htot; go_enter Tryz.func151, Tryz.ntmps151; go_wp2; go_loopw [1, 12] (fun s1 s5 wr => ∃ (k : Nat) (m : Int), k ≤ l.length ∧ s5 = .int .i64 k ∧ s1 = .int .i64 m ∧ -1 ≤ m ∧ m ≤ n ∧ Hid (V.cntL ((l.map VT.v).drop k) m = tot) ∧ Below w.heap.size w wr) (fun _ s5 _ => l.length - (intOf s5).toNat)
    case atStart => exact ⟨0, n - 1, by omega, rfl, rfl, by omega, by omega, htot', hB0⟩
    case round =>
      clear c4 b0 hB0; obtain ⟨k, m, hk, rfl, rfl, hm0, hm1, hc', hB⟩ := hrel; by_cases hlt : k < l.length
      · have h1 : (k : Int) < (l.length : Int) := by omega
        have hLk := hL.pure hB; obtain ⟨g, off, rfl⟩ := hLk.addrB hlt; have hRk := (hsubh.out l[k] (List.getElem_mem hlt)).pure hB; obtain ⟨xk, xn, xs, xka, xkl, xkc, xla, xll, xlc, xks, xl, hx, q0, q1, q2, q3, q4⟩ := v_elem hLk hlt hRk; by_cases hneg : m < 0
        · have hres := Lib.hid (show m = tot by rw [← hc'.out, cntL_neg _ hneg]); clear hx; go_wp2; go_ret; exact ⟨by rw [hres.out]; rfl, (hB.alloc hB.size _)⟩
        · have hm : 0 ≤ m := by omega
          have hBe := (Below.refl wr.heap.size wr).alloc (Nat.le_refl _) (.cells #[.int .u8 xk, .int .u64 xn, .string xs, .slice xka xkl xkc, .slice xla xll xlc] 31); have be := Blk.new wr [.int .u8 xk, .int .u64 xn, .string xs, .slice xka xkl xkc, .slice xla xll xlc] 31; have e0 := be.at 0 rfl; have e1 := be.at 1 rfl; have e2 := be.at 2 rfl; have e3 := be.at 3 rfl; have e4 := be.at 4 rfl; have hi := ihh.out l[k] (List.getElem_mem hlt) P _ m (hRk.pure hBe) hm (by omega); have hge := cnt_ge l[k].v m hm; have hlt2 := cnt_lt l[k].v m; have hst := Lib.hid (show V.cntL ((l.map VT.v).drop (k + 1)) (l[k].v.cnt m) = tot by rw [← hc'.out, cntL_step (by simpa using hlt) hm, List.getElem_map]); obtain ⟨y, hy⟩ : ∃ y, l[k].v.cnt m = y := ⟨_, rfl⟩
          rw [hy, hx, VT.arg_mk] at hi; rw [hy] at hge hlt2 hst; have hih := Lib.hid hi; clear hi hx hy hneg; go_wp2_with (go_at_call 151; (with_reducible refine hih.out.mono ?_); rintro e w1 ⟨rfl, hB1⟩; have hB2 := hB.trans ((hBe.trans (hB1.mono hBe.size)).mono hB.size)); go_roundw
          case rel => exact ⟨k + 1, y, by omega, by go_num, rfl, hge, by omega, hst, hB2⟩
          case measure => simp [intOf]; omega
      · obtain rfl : k = l.length := by omega
        have hres := Lib.hid (show m = tot by rw [← hc'.out, cntL_done (by simp)]); go_wp2; go_ret; exact ⟨by rw [hres.out]; rfl, hB⟩
theorem any_idx_cdeep {L : List VT} {p : VT → Bool} (k : Nat) (h1 : ∀ j, (h : j < L.length) → j < k → p L[j] = false) (h2 : (h : k < L.length) → p L[k] = true) : L.any p = decide (k < L.length) := by
  by_cases hk : k < L.length
  · rw [decide_eq_true hk]; exact List.any_eq_true.2 ⟨_, List.getElem_mem hk, h2 hk⟩
  · rw [decide_eq_false hk]; refine List.any_eq_false.2 (fun x hx => ?_); obtain ⟨j, hj, rfl⟩ := List.getElem_of_mem hx; simp [h1 j hj (by omega)]
set_option maxRecDepth 100000 in
set_option maxHeartbeats 1600000 in
theorem cdeep_idx (w : World) (la : Option Addr) (lc : Nat) (L : List VT) (P : Nat → Prop) (p : VT → Bool) (q : Nat) (hL : Slc vEnc 5 w (.slice la L.length lc) L) (hml : (L.length : Int) ≤ 9223372036854775807) (hsubh : Hid (∀ x ∈ L, Rd P w x)) (hcall : Hid (∀ x ∈ L, ∀ u : World, Below w.heap.size w u → Calls Tryz.prog 158 #[x.arg, .pointer (some ⟨q, 0, none⟩)] u fun e u' => e = .returned (.bool (p x)) ∧ Below u.heap.size u u')) :
    Calls Tryz.prog 162 #[.slice la L.length lc, .func (.func 158) #[] #[.pointer (some ⟨q, 0, none⟩)]] w fun e w' => (∃ r : Int, e = .returned (.int .i64 r) ∧ decide (0 ≤ r) = L.any p) ∧ Below w.heap.size w w' := by
  go_enter Tryz.func162, Tryz.ntmps162; go_wp2; go_loopw [8] (fun s8 wr => ∃ k : Nat, k ≤ L.length ∧ s8 = .int .i64 k ∧ Hid (∀ j, (h : j < L.length) → j < k → p L[j] = false) ∧ Below w.heap.size w wr) (fun s8 _ => L.length - (intOf s8).toNat)
  case atStart => exact ⟨0, by omega, rfl, Lib.hid (fun j h h0 => absurd h0 (by omega)), Below.refl _ _⟩
  case round =>
    obtain ⟨k, hk, rfl, hno, hB⟩ := hrel; by_cases hlt : k < L.length
    · have hLk := hL.pure hB; obtain ⟨g, off, rfl⟩ := hLk.addrB hlt; have hRk := (hsubh.out L[k] (List.getElem_mem hlt)).pure hB; obtain ⟨xk, xn, xs, xka, xkl, xkc, xla, xll, xlc, xks, xl, hx, q0, q1, q2, q3, q4⟩ := v_elem hLk hlt hRk; have hi := hcall.out L[k] (List.getElem_mem hlt) wr hB; obtain ⟨b, hb⟩ : ∃ b, p L[k] = b := ⟨_, rfl⟩
      rw [hb, hx, VT.arg_mk] at hi; have hih := Lib.hid hi; have hbh := Lib.hid hb; clear hi hb hx; have h1 : (k : Int) < (L.length : Int) := by omega
      cases b
      · go_wp2_with (go_at_call 158; (with_reducible refine hih.out.mono ?_); rintro e w1 ⟨rfl, hB1⟩; have hB2 := hB.trans (hB1.mono hB.size)); go_roundw
        case rel => exact ⟨k + 1, by omega, by go_num, Lib.hid (fun j h h0 => by
          rcases Nat.lt_or_ge j k with h' | h'
          · exact hno.out j h h'
          · obtain rfl : j = k := by omega
            exact hbh.out), hB2⟩
        case measure => simp [intOf]; omega
      · go_wp2_with (go_at_call 158; (with_reducible refine hih.out.mono ?_); rintro e w1 ⟨rfl, hB1⟩; have hB2 := hB.trans (hB1.mono hB.size)); go_ret; exact ⟨⟨k, rfl, by rw [any_idx_cdeep k hno.out (fun _ => hbh.out), decide_eq_true hlt]; simp⟩, hB2⟩
    · obtain rfl : k = L.length := by omega
      go_wp2; go_ret; exact ⟨⟨-1, rfl, by rw [any_idx_cdeep L.length hno.out (fun h => absurd h hlt), decide_eq_false hlt]; decide⟩, hB⟩
theorem cdeep_any (w : World) (la : Option Addr) (lc : Nat) (L : List VT) (P : Nat → Prop) (p : VT → Bool) (q : Nat) (hL : Slc vEnc 5 w (.slice la L.length lc) L) (hml : (L.length : Int) ≤ 9223372036854775807) (hsubh : Hid (∀ x ∈ L, Rd P w x)) (hcall : Hid (∀ x ∈ L, ∀ u : World, Below w.heap.size w u → Calls Tryz.prog 158 #[x.arg, .pointer (some ⟨q, 0, none⟩)] u fun e u' => e = .returned (.bool (p x)) ∧ Below u.heap.size u u')) :
    Calls Tryz.prog 157 #[.slice la L.length lc, .func (.func 158) #[] #[.pointer (some ⟨q, 0, none⟩)]] w fun e w' => e = .returned (.bool (L.any p)) ∧ Below w.heap.size w w' := by
  go_enter Tryz.func157, Tryz.ntmps157; go_wp2_with (go_at_call 162; (with_reducible refine (cdeep_idx w la lc L P p q hL hml hsubh hcall).mono ?_); rintro e w1 ⟨⟨r, rfl, hr⟩, hB1⟩); go_ret; exact ⟨by rw [← hr]; rfl, hB1⟩
theorem any_idx_cmay {L : List VT} {p : VT → Bool} (k : Nat) (h1 : ∀ j, (h : j < L.length) → j < k → p L[j] = false) (h2 : (h : k < L.length) → p L[k] = true) : L.any p = decide (k < L.length) := by
  by_cases hk : k < L.length
  · rw [decide_eq_true hk]; exact List.any_eq_true.2 ⟨_, List.getElem_mem hk, h2 hk⟩
  · rw [decide_eq_false hk]; refine List.any_eq_false.2 (fun x hx => ?_); obtain ⟨j, hj, rfl⟩ := List.getElem_of_mem hx; simp [h1 j hj (by omega)]
set_option maxRecDepth 100000 in
set_option maxHeartbeats 1600000 in
theorem cmay_idx (w : World) (la : Option Addr) (lc : Nat) (L : List VT) (P : Nat → Prop) (p : VT → Bool) (hL : Slc vEnc 5 w (.slice la L.length lc) L) (hml : (L.length : Int) ≤ 9223372036854775807) (hsubh : Hid (∀ x ∈ L, Rd P w x)) (hcall : Hid (∀ x ∈ L, ∀ u : World, Below w.heap.size w u → Calls Tryz.prog 161 #[x.arg] u fun e u' => e = .returned (.bool (p x)) ∧ Below u.heap.size u u')) :
    Calls Tryz.prog 162 #[.slice la L.length lc, .func (.func 161) #[] #[]] w fun e w' => (∃ r : Int, e = .returned (.int .i64 r) ∧ decide (0 ≤ r) = L.any p) ∧ Below w.heap.size w w' := by
  go_enter Tryz.func162, Tryz.ntmps162; go_wp2; go_loopw [8] (fun s8 wr => ∃ k : Nat, k ≤ L.length ∧ s8 = .int .i64 k ∧ Hid (∀ j, (h : j < L.length) → j < k → p L[j] = false) ∧ Below w.heap.size w wr) (fun s8 _ => L.length - (intOf s8).toNat)
  case atStart => exact ⟨0, by omega, rfl, Lib.hid (fun j h h0 => absurd h0 (by omega)), Below.refl _ _⟩
  case round =>
    obtain ⟨k, hk, rfl, hno, hB⟩ := hrel; by_cases hlt : k < L.length
    · have hLk := hL.pure hB; obtain ⟨g, off, rfl⟩ := hLk.addrB hlt; have hRk := (hsubh.out L[k] (List.getElem_mem hlt)).pure hB; obtain ⟨xk, xn, xs, xka, xkl, xkc, xla, xll, xlc, xks, xl, hx, q0, q1, q2, q3, q4⟩ := v_elem hLk hlt hRk; have hi := hcall.out L[k] (List.getElem_mem hlt) wr hB; obtain ⟨b, hb⟩ : ∃ b, p L[k] = b := ⟨_, rfl⟩
      rw [hb, hx, VT.arg_mk] at hi; have hih := Lib.hid hi; have hbh := Lib.hid hb; clear hi hb hx; have h1 : (k : Int) < (L.length : Int) := by omega
      cases b
      · go_wp2_with (go_at_call 161; (with_reducible refine hih.out.mono ?_); rintro e w1 ⟨rfl, hB1⟩; have hB2 := hB.trans (hB1.mono hB.size)); go_roundw
        case rel => exact ⟨k + 1, by omega, by go_num, Lib.hid (fun j h h0 => by
          rcases Nat.lt_or_ge j k with h' | h'
          · exact hno.out j h h'
          · obtain rfl : j = k := by omega
            exact hbh.out), hB2⟩
        case measure => simp [intOf]; omega
      · go_wp2_with (go_at_call 161; (with_reducible refine hih.out.mono ?_); rintro e w1 ⟨rfl, hB1⟩; have hB2 := hB.trans (hB1.mono hB.size)); go_ret; exact ⟨⟨k, rfl, by rw [any_idx_cmay k hno.out (fun _ => hbh.out), decide_eq_true hlt]; simp⟩, hB2⟩
    · obtain rfl : k = L.length := by omega
      go_wp2; go_ret; exact ⟨⟨-1, rfl, by rw [any_idx_cmay L.length hno.out (fun h => absurd h hlt), decide_eq_false hlt]; decide⟩, hB⟩
theorem cmay_any (w : World) (la : Option Addr) (lc : Nat) (L : List VT) (P : Nat → Prop) (p : VT → Bool) (hL : Slc vEnc 5 w (.slice la L.length lc) L) (hml : (L.length : Int) ≤ 9223372036854775807) (hsubh : Hid (∀ x ∈ L, Rd P w x)) (hcall : Hid (∀ x ∈ L, ∀ u : World, Below w.heap.size w u → Calls Tryz.prog 161 #[x.arg] u fun e u' => e = .returned (.bool (p x)) ∧ Below u.heap.size u u')) :
    Calls Tryz.prog 157 #[.slice la L.length lc, .func (.func 161) #[] #[]] w fun e w' => e = .returned (.bool (L.any p)) ∧ Below w.heap.size w w' := by
  go_enter Tryz.func157, Tryz.ntmps157; go_wp2_with (go_at_call 162; (with_reducible refine (cmay_idx w la lc L P p hL hml hsubh hcall).mono ?_); rintro e w1 ⟨⟨r, rfl, hr⟩, hB1⟩); go_ret; exact ⟨by rw [← hr]; rfl, hB1⟩
set_option maxRecDepth 100000 in
set_option maxHeartbeats 1600000 in
theorem deep_any0 (t : VT) : ∀ (P : Nat → Prop) (w : World) (d : Nat), Rd P w t → d ≤ 1000000 → Calls Tryz.prog 150 #[t.arg, .int .i64 d] w fun e w' => e = .returned (.bool (t.v.deep d)) ∧ Below w.heap.size w w' := by
  induction t using VT.ind with
  | h t ih =>
    intro P w d hR hd; have hR0 := hR; obtain ⟨tk, tn, ts, ka, kc, la, lc, ks, l, rfl, hK, hL, hmk, hml⟩ := hR.open; rw [VT.arg_mk]; have hsub : ∀ x ∈ l, Rd P w x := hR.sub
    have ih' : ∀ x ∈ l, ∀ (P : Nat → Prop) (w : World) (d : Nat), Rd P w x → d ≤ 1000000 → Calls Tryz.prog 150 #[x.arg, .int .i64 d] w fun e w' => e = .returned (.bool (x.v.deep d)) ∧ Below w.heap.size w w' := ih
    have ihh := Lib.hid ih'; have hsubh := Lib.hid hsub; have hbn0 : 0 ≤ tn := hR.n0; have hbn1 := Lib.hid (show tn < 18446744073709551616 from hR.n1); have hbk0 : 0 ≤ tk := hR.k0; have hbk1 : tk < 256 := hR.k1; have hRh := Lib.hid hR0; clear ih ih' hsub hR hR0; have hB0 := (Below.refl w.heap.size w).alloc (Nat.le_refl _) (.cells #[.int .u8 tk, .int .u64 tn, .string ts, .slice ka ks.length kc, .slice la l.length lc] 31); have b0 := Blk.new w [.int .u8 tk, .int .u64 tn, .string ts, .slice ka ks.length kc, .slice la l.length lc] 31
    cases d with
    | zero =>
      have hz : (VT.mk tk tn ts (.slice ka ks.length kc) (.slice la l.length lc) ks l).v.deep 0 = true := by unfold V.deep; rfl
      rw [hz]; clear hz; go_enter Tryz.func150, Tryz.ntmps150; go_wp2; go_ret; exact ⟨rfl, hB0.alloc hB0.size _⟩
    | succ d =>
      rw [deep_any_iff]; obtain ⟨n, hn⟩ : ∃ n : Int, n = ((d + 1 : Nat) : Int) := ⟨_, rfl⟩
      have hne : (n == 0) = false := beq_eq_false_iff_ne.2 (by omega); rw [← hn]; have hn1 := Lib.hid (show n - 1 = (d : Int) by omega); have hn2 : 1 ≤ n := by omega
      have hn3 : n ≤ 1000000 := by omega
      clear hn; have b1 := b0.alloc (.cells #[.int .i64 n] 3); have hB1 := hB0.alloc hB0.size (.cells #[.int .i64 n] 3); have bq : Blk ((w.alloc (.cells #[.int .u8 tk, .int .u64 tn, .string ts, .slice ka ks.length kc, .slice la l.length lc] 31)).alloc (.cells #[.int .i64 n] 3)) (w.heap.size + 1) [.int .i64 n] := by have := Blk.new (w.alloc (.cells #[.int .u8 tk, .int .u64 tn, .string ts, .slice ka ks.length kc, .slice la l.length lc] 31)) [.int .i64 n] 3; simpa using this
      have c4 := b1.at 4 rfl; have d0 := bq.at 0 rfl; have hL1 := hL.pure hB1
      have hcall : Hid (∀ x ∈ l, ∀ u : World, Below ((w.alloc (.cells #[.int .u8 tk, .int .u64 tn, .string ts, .slice ka ks.length kc, .slice la l.length lc] 31)).alloc (.cells #[.int .i64 n] 3)).heap.size ((w.alloc (.cells #[.int .u8 tk, .int .u64 tn, .string ts, .slice ka ks.length kc, .slice la l.length lc] 31)).alloc (.cells #[.int .i64 n] 3)) u → Calls Tryz.prog 158 #[x.arg, .pointer (some ⟨w.heap.size + 1, 0, none⟩)] u fun e u' => e = .returned (.bool (x.v.deep d)) ∧ Below u.heap.size u u') := Lib.hid (fun x hx u hu => by
        have hRx := ((hsubh.out x hx).pure hB1).pure hu; obtain ⟨yk, yn, ys, yka, ykc, yla, ylc, yks, yl, rfl, -, -, -, -⟩ := hRx.open; have hi := ihh.out _ hx P (u.alloc (.cells #[.int .u8 yk, .int .u64 yn, .string ys, .slice yka yks.length ykc, .slice yla yl.length ylc] 31)) d (hRx.pure ((Below.refl _ _).alloc (Nat.le_refl _) _)) (by omega); rw [← hn1.out] at hi; obtain ⟨r, hr⟩ : ∃ r, (VT.mk yk yn ys (.slice yka yks.length ykc) (.slice yla yl.length ylc) yks yl).v.deep d = r := ⟨_, rfl⟩
        rw [hr, VT.arg_mk] at hi; rw [hr, VT.arg_mk]; have hih := Lib.hid hi; have bx := Blk.new u [.int .u8 yk, .int .u64 yn, .string ys, .slice yka yks.length ykc, .slice yla yl.length ylc] 31; have hBx := (Below.refl u.heap.size u).alloc (Nat.le_refl _) (.cells #[.int .u8 yk, .int .u64 yn, .string ys, .slice yka yks.length ykc, .slice yla yl.length ylc] 31); have bqu := (bq.pure hu).pure hBx; have f0 := bqu.at 0 rfl; have e0 := bx.at 0 rfl; have e1 := bx.at 1 rfl; have e2 := bx.at 2 rfl; have e3 := bx.at 3 rfl; have e4 := bx.at 4 rfl; clear hi hr bq bqu bx; go_enter Tryz.func158, Tryz.ntmps158; go_wp2_with (go_at_call 150; (with_reducible refine hih.out.mono ?_); rintro e w1 ⟨rfl, hB9⟩); go_ret
        exact ⟨rfl, hBx.trans (hB9.mono hBx.size)⟩)
      have hsub1 := Lib.hid (fun x hx => (hsubh.out x hx).pure hB1); have hmf : ∀ (fn : Fn) (first cap : Array Value) (w : World), (Instr.makeFunc fn first cap).run Tryz.prog w = .ok (.func fn first cap) w := fun _ _ _ _ => rfl
      have hcf := Lib.hid (cdeep_any _ la lc l P (fun x => x.v.deep d) _ hL1 hml hsub1 hcall); clear hcall bq b1; obtain ⟨tot, htot⟩ : ∃ tot, l.any (fun x => x.v.deep d) = tot := ⟨_, rfl⟩
      rw [htot] at hcf ⊢; clear htot; go_enter Tryz.func150, Tryz.ntmps150; go_wp2_with (go_at_call 157; (with_reducible refine hcf.out.mono ?_); rintro e w1 ⟨rfl, hB9⟩); go_ret; exact ⟨rfl, hB1.trans (hB9.mono hB1.size)⟩
theorem mayL_any (l : List VT) : V.mayL (l.map VT.v) = !(l.any (fun x => !x.v.may)) := by
  induction l with
  | nil => rfl
  | cons x xs ih =>
    rw [List.map_cons]; unfold V.mayL; rw [ih, List.any_cons, Bool.not_or, Bool.not_not]
theorem may_vt {tk tn : Int} {ts : ByteArray} {kv lv : Value} {ks : List ByteArray} {l : List VT} : (VT.mk tk tn ts kv lv ks l).v.may = (headOk tk tn ts ks l.length && V.mayL (l.map VT.v)) := by
  rw [VT.v_eq]; conv => lhs; unfold V.may
  show (headOk tk tn ts ks (l.map VT.v).length && V.mayL (l.map VT.v)) = _
  rw [List.length_map]
theorem kind_ne {k : Int} (h : k ≠ 240 ∧ k ≠ 8 ∧ k ≠ 2 ∧ k ≠ 49 ∧ k ≠ 50 ∧ k ≠ 149 ∧ k ≠ 160 ∧ k ≠ 168 ∧ k ≠ 169) (n : Int) (s : ByteArray) (ks : List ByteArray) (len : Nat) : headOk k n s ks len = false := by
  rw [Bool.eq_false_iff]; intro e; rcases headOk_cases e with h1 | h1 | h1 | h1 | h1 | h1 | h1 | h1 <;> omega
set_option maxRecDepth 100000 in
set_option maxHeartbeats 1600000 in
theorem may_any (t : VT) : ∀ (P : Nat → Prop) (w : World), Rd P w t → Tb w → Calls Tryz.prog 152 #[t.arg] w fun e w' => e = .returned (.bool t.v.may) ∧ Below w.heap.size w w' := by
  induction t using VT.ind with
  | h t ih =>
    intro P w  hR hT; have hR0 := hR; obtain ⟨tk, tn, ts, ka, kc, la, lc, ks, l, rfl, hK, hL, hmk, hml⟩ := hR.open; rw [VT.arg_mk]; have hsub : ∀ x ∈ l, Rd P w x := hR.sub
    have ih' : ∀ x ∈ l, ∀ (P : Nat → Prop) (w : World), Rd P w x → Tb w → Calls Tryz.prog 152 #[x.arg] w fun e w' => e = .returned (.bool x.v.may) ∧ Below w.heap.size w w' := ih
    have ihh := Lib.hid ih'; have hsubh := Lib.hid hsub; have hbn0 : 0 ≤ tn := hR.n0; have hbn1 := Lib.hid (show tn < 18446744073709551616 from hR.n1); have hbk0 : 0 ≤ tk := hR.k0; have hbk1 : tk < 256 := hR.k1; have hRh := Lib.hid hR0; clear ih ih' hsub hR hR0; have hB0 := (Below.refl w.heap.size w).alloc (Nat.le_refl _) (.cells #[.int .u8 tk, .int .u64 tn, .string ts, .slice ka ks.length kc, .slice la l.length lc] 31); have b0 := Blk.new w [.int .u8 tk, .int .u64 tn, .string ts, .slice ka ks.length kc, .slice la l.length lc] 31; have c0 := b0.at 0 rfl; have c1 := b0.at 1 rfl; have c2 := b0.at 2 rfl; have c3 := b0.at 3 rfl; have c4 := b0.at 4 rfl; rw [may_vt]; obtain ⟨tot, htot⟩ : ∃ tot, (headOk tk tn ts ks l.length && V.mayL (l.map VT.v)) = tot := ⟨_, rfl⟩
    rw [htot]; have htot' := Lib.hid htot; clear htot; have hkl0 : (ks.length : Int) = 0 ∨ 0 < (ks.length : Int) := by omega
    have hll0 : (l.length : Int) = 0 ∨ 0 < (l.length : Int) := by omega
    have hT0 := Lib.hid (hT.pure hB0); have hTh := Lib.hid hT; clear hT hkl0 hll0; have hL0 := hL.pure hB0; have hK0 := hK.pure hB0; have hsub0 := Lib.hid (fun x hx => (hsubh.out x hx).pure hB0)
    have hcall : Hid (∀ x ∈ l, ∀ u : World, Below (w.alloc (.cells #[.int .u8 tk, .int .u64 tn, .string ts, .slice ka ks.length kc, .slice la l.length lc] 31)).heap.size (w.alloc (.cells #[.int .u8 tk, .int .u64 tn, .string ts, .slice ka ks.length kc, .slice la l.length lc] 31)) u → Calls Tryz.prog 161 #[x.arg] u fun e u' => e = .returned (.bool (!x.v.may)) ∧ Below u.heap.size u u') := Lib.hid (fun x hx u hu => by
      have hRx := (hsub0.out x hx).pure hu; obtain ⟨yk, yn, ys, yka, ykc, yla, ylc, yks, yl, rfl, -, -, -, -⟩ := hRx.open; have hBx := (Below.refl u.heap.size u).alloc (Nat.le_refl _) (.cells #[.int .u8 yk, .int .u64 yn, .string ys, .slice yka yks.length ykc, .slice yla yl.length ylc] 31); have hi := ihh.out _ hx P (u.alloc (.cells #[.int .u8 yk, .int .u64 yn, .string ys, .slice yka yks.length ykc, .slice yla yl.length ylc] 31)) (hRx.pure hBx) ((hT0.out.pure hu).pure hBx); obtain ⟨r, hr⟩ : ∃ r, (VT.mk yk yn ys (.slice yka yks.length ykc) (.slice yla yl.length ylc) yks yl).v.may = r := ⟨_, rfl⟩
      rw [hr, VT.arg_mk] at hi; rw [hr, VT.arg_mk]; have hih := Lib.hid hi; have bx := Blk.new u [.int .u8 yk, .int .u64 yn, .string ys, .slice yka yks.length ykc, .slice yla yl.length ylc] 31; have e0 := bx.at 0 rfl; have e1 := bx.at 1 rfl; have e2 := bx.at 2 rfl; have e3 := bx.at 3 rfl; have e4 := bx.at 4 rfl; clear hi hr bx; go_enter Tryz.func161, Tryz.ntmps161; go_wp2_with (go_at_call 152; (with_reducible refine hih.out.mono ?_); rintro e w1 ⟨rfl, hB9⟩); go_ret
      exact ⟨rfl, hBx.trans (hB9.mono hBx.size)⟩)
    have hcf3 := Lib.hid (fun (u : World) (hu : Below (w.alloc (.cells #[.int .u8 tk, .int .u64 tn, .string ts, .slice ka ks.length kc, .slice la l.length lc] 31)).heap.size (w.alloc (.cells #[.int .u8 tk, .int .u64 tn, .string ts, .slice ka ks.length kc, .slice la l.length lc] 31)) u) => cmay_any u la lc l P (fun x => !x.v.may) (hL0.pure hu) hml (Lib.hid (fun x hx => (hsub0.out x hx).pure hu)) (Lib.hid (fun x hx v hv => hcall.out x hx v (hu.trans (hv.mono hu.size))))); have bb := b0; have hcf0 := cmay_any _ la lc l P (fun x => !x.v.may) hL0 hml hsub0 hcall; have hmay := mayL_any l; obtain ⟨q, hq⟩ : ∃ q, l.any (fun x => !x.v.may) = q := ⟨_, rfl⟩
    rw [hq] at hcf0 hmay hcf3; have hcf := Lib.hid hcf0; have hmayh := Lib.hid hmay; clear hcall hcf0 hq hmay hL0 b0; have hes : ts.size = 0 ∨ ts.size ≠ 0 := by omega
    by_cases k1 : tk ≠ 168 ∧ 0 < ks.length
    · obtain ⟨k1, k2⟩ := k1; have k3 : (tk != 168) = true := bne_iff_ne.2 k1; have k5 : ks ≠ [] := fun e => by rw [e] at k2; simp at k2
      clear hes; have hres := Lib.hid (show tot = false by rw [← htot'.out]; have : (tk == 168) = false := beq_eq_false_iff_ne.2 k1; have h2 : ks.isEmpty = false := (by rw [Bool.eq_false_iff, ne_eq, List.isEmpty_iff]; exact k5); unfold headOk; rw [this, h2]; rfl); go_enter Tryz.func152, Tryz.ntmps152; go_wp2; go_ret; exact ⟨by rw [hres.out]; rfl, hB0⟩
    by_cases k2 : (tk ≠ 168 ∧ tk ≠ 169) ∧ 0 < l.length
    · obtain ⟨⟨k2, k3⟩, k4⟩ := k2; have k5 : (tk != 168) = true := bne_iff_ne.2 k2; have k6 : (tk != 169) = true := bne_iff_ne.2 k3; have hk0 : ks.length = 0 := by omega
      obtain rfl : ks = [] := List.length_eq_zero_iff.1 hk0; clear hes k1 hk0; have hres := Lib.hid (show tot = false by rw [← htot'.out]; have h1 : (tk == 168) = false := beq_eq_false_iff_ne.2 k2; have h2 : (tk == 169) = false := beq_eq_false_iff_ne.2 k3; have h3 : (l.length == 0) = false := beq_eq_false_iff_ne.2 (by omega); unfold headOk; rw [h1, h2, h3]; simp); go_enter Tryz.func152, Tryz.ntmps152; go_wp2; go_ret; exact ⟨by rw [hres.out]; rfl, hB0⟩
    have hks : tk ≠ 168 → ks = [] := fun h => List.length_eq_zero_iff.1 (by omega)
    have hls : tk ≠ 168 → tk ≠ 169 → l = [] := fun h h' => List.length_eq_zero_iff.1 (by omega)
    clear k1 k2; by_cases q240 : tk = 240
    · subst q240; obtain rfl := hks (by omega); obtain rfl := hls (by omega) (by omega); clear hks hls; by_cases hn : tn = 0
      · subst hn; rcases hes with hz | hz
        · have e1 : ts.toList = [] := toList_nil hz; have hres := Lib.hid (show tot = true by rw [← htot'.out]; simp [headOk, hz, V.mayL]); clear hz; go_enter Tryz.func152, Tryz.ntmps152; go_wp2; go_ret; exact ⟨by rw [hres.out]; rfl, hB0⟩
        · have e1 : ts.toList.isEmpty = false := toList_ne hz; have e2 : ¬ ts.toList = [] := fun h => by rw [h] at e1; cases e1
          have hres := Lib.hid (show tot = false by rw [← htot'.out]; simp [headOk, hz]); clear hz; go_enter Tryz.func152, Tryz.ntmps152; go_wp2; go_ret; exact ⟨by rw [hres.out]; rfl, hB0⟩
      · have hn1 : (tn == 0) = false := beq_eq_false_iff_ne.2 hn; have hres := Lib.hid (show tot = false by rw [← htot'.out]; simp [headOk, hn]); clear hes; go_enter Tryz.func152, Tryz.ntmps152; go_wp2; go_ret; exact ⟨by rw [hres.out]; rfl, hB0⟩
    by_cases q8 : tk = 8
    · subst q8; obtain rfl := hks (by omega); obtain rfl := hls (by omega) (by omega); clear hks hls; by_cases hn : tn ≤ 1
      · skip; rcases hes with hz | hz
        · have e1 : ts.toList = [] := toList_nil hz; have hres := Lib.hid (show tot = true by rw [← htot'.out]; simp [headOk, hz, hn, V.mayL]); clear hz; go_enter Tryz.func152, Tryz.ntmps152; go_wp2; go_ret; exact ⟨by rw [hres.out]; rfl, hB0⟩
        · have e1 : ts.toList.isEmpty = false := toList_ne hz; have e2 : ¬ ts.toList = [] := fun h => by rw [h] at e1; cases e1
          have hres := Lib.hid (show tot = false by rw [← htot'.out]; simp [headOk, hz]); clear hz; go_enter Tryz.func152, Tryz.ntmps152; go_wp2; go_ret; exact ⟨by rw [hres.out]; rfl, hB0⟩
      · have hn1 : 1 < tn := by omega
        have hres := Lib.hid (show tot = false by rw [← htot'.out]; simp [headOk, hn]); clear hes; go_enter Tryz.func152, Tryz.ntmps152; go_wp2; go_ret; exact ⟨by rw [hres.out]; rfl, hB0⟩
    by_cases q2 : tk = 2
    · subst q2; obtain rfl := hks (by omega); obtain rfl := hls (by omega) (by omega); clear hks hls; by_cases hn : tn ≤ 255
      · skip; rcases hes with hz | hz
        · have e1 : ts.toList = [] := toList_nil hz; have hres := Lib.hid (show tot = true by rw [← htot'.out]; simp [headOk, hz, hn, V.mayL]); clear hz; go_enter Tryz.func152, Tryz.ntmps152; go_wp2; go_ret; exact ⟨by rw [hres.out]; rfl, hB0⟩
        · have e1 : ts.toList.isEmpty = false := toList_ne hz; have e2 : ¬ ts.toList = [] := fun h => by rw [h] at e1; cases e1
          have hres := Lib.hid (show tot = false by rw [← htot'.out]; simp [headOk, hz]); clear hz; go_enter Tryz.func152, Tryz.ntmps152; go_wp2; go_ret; exact ⟨by rw [hres.out]; rfl, hB0⟩
      · have hn1 : 255 < tn := by omega
        have hres := Lib.hid (show tot = false by rw [← htot'.out]; simp [headOk, hn]); clear hes; go_enter Tryz.func152, Tryz.ntmps152; go_wp2; go_ret; exact ⟨by rw [hres.out]; rfl, hB0⟩
    by_cases q49 : tk = 49
    · subst q49; obtain rfl := hks (by omega); obtain rfl := hls (by omega) (by omega); clear hks hls; rcases hes with hz | hz
      · have e1 : ts.toList = [] := toList_nil hz; have hres := Lib.hid (show tot = true by rw [← htot'.out]; simp [headOk, hz, V.mayL]); clear hz; go_enter Tryz.func152, Tryz.ntmps152; go_wp2; go_ret; exact ⟨by rw [hres.out]; rfl, hB0⟩
      · have e1 : ts.toList.isEmpty = false := toList_ne hz; have e2 : ¬ ts.toList = [] := fun h => by rw [h] at e1; cases e1
        have hres := Lib.hid (show tot = false by rw [← htot'.out]; simp [headOk, hz]); clear hz; go_enter Tryz.func152, Tryz.ntmps152; go_wp2; go_ret; exact ⟨by rw [hres.out]; rfl, hB0⟩
    by_cases q50 : tk = 50
    · subst q50; obtain rfl := hks (by omega); obtain rfl := hls (by omega) (by omega); clear hks hls; rcases hes with hz | hz
      · have e1 : ts.toList = [] := toList_nil hz; have hres := Lib.hid (show tot = true by rw [← htot'.out]; simp [headOk, hz, V.mayL]); clear hz; go_enter Tryz.func152, Tryz.ntmps152; go_wp2; go_ret; exact ⟨by rw [hres.out]; rfl, hB0⟩
      · have e1 : ts.toList.isEmpty = false := toList_ne hz; have e2 : ¬ ts.toList = [] := fun h => by rw [h] at e1; cases e1
        have hres := Lib.hid (show tot = false by rw [← htot'.out]; simp [headOk, hz]); clear hz; go_enter Tryz.func152, Tryz.ntmps152; go_wp2; go_ret; exact ⟨by rw [hres.out]; rfl, hB0⟩
    by_cases q149 : tk = 149
    · subst q149; obtain rfl := hks (by omega); obtain rfl := hls (by omega) (by omega); clear hks hls; clear hes; by_cases hn : tn = 0
      rotate_left 1
      · have hn1 : (tn == 0) = false := beq_eq_false_iff_ne.2 hn; have hres := Lib.hid (show tot = false by rw [← htot'.out]; simp [headOk, hn]); go_enter Tryz.func152, Tryz.ntmps152; go_wp2; go_ret; exact ⟨by rw [hres.out]; rfl, hB0⟩
      subst hn; by_cases hz : ts.size ≤ 4096
      rotate_left 1
      · have hz1 : decide ((ts.size : Int) ≤ 4096) = false := decide_eq_false (by omega); have hres := Lib.hid (show tot = false by rw [← htot'.out]; simp [headOk, hz]); go_enter Tryz.func152, Tryz.ntmps152; go_wp2; go_ret; exact ⟨by rw [hres.out]; rfl, hB0⟩
      have hz1 : decide ((ts.size : Int) ≤ 4096) = true := decide_eq_true (by omega); have hpl0 := plain_any ts _ (by omega) hT0.out; obtain ⟨u, hu⟩ : ∃ u, u8s ts = u := ⟨_, rfl⟩
      rw [hu] at hpl0; have hpl := Lib.hid hpl0; have hres := Lib.hid (show tot = u by rw [← htot'.out]; simp [headOk, hz, hu, V.mayL]); clear hpl0 hu; go_enter Tryz.func152, Tryz.ntmps152; go_wp2_with (first | (go_at_call 159; refine hpl.out.mono ?_; rintro e w1 ⟨rfl, hB1⟩)); go_ret; exact ⟨by rw [hres.out]; rfl, hB0.trans (hB1.mono hB0.size)⟩
    by_cases q160 : tk = 160
    · subst q160; obtain rfl := hks (by omega); obtain rfl := hls (by omega) (by omega); clear hks hls; clear hes; by_cases hn : tn = 0
      rotate_left 1
      · have hn1 : (tn == 0) = false := beq_eq_false_iff_ne.2 hn; have hres := Lib.hid (show tot = false by rw [← htot'.out]; simp [headOk, hn]); go_enter Tryz.func152, Tryz.ntmps152; go_wp2; go_ret; exact ⟨by rw [hres.out]; rfl, hB0⟩
      subst hn; by_cases hz : ts.size ≤ 4096
      rotate_left 1
      · have hz1 : decide ((ts.size : Int) ≤ 4096) = false := decide_eq_false (by omega); have hres := Lib.hid (show tot = false by rw [← htot'.out]; simp [headOk, hz]); go_enter Tryz.func152, Tryz.ntmps152; go_wp2; go_ret; exact ⟨by rw [hres.out]; rfl, hB0⟩
      have hz1 : decide ((ts.size : Int) ≤ 4096) = true := decide_eq_true (by omega); have hres := Lib.hid (show tot = true by rw [← htot'.out]; simp [headOk, hz, V.mayL]); go_enter Tryz.func152, Tryz.ntmps152; go_wp2; go_ret; exact ⟨by rw [hres.out]; rfl, hB0⟩
    by_cases q169 : tk = 169
    · subst q169; obtain rfl := hks (by omega); clear hks hls; by_cases hn : tn = 0
      rotate_left 1
      · have hn1 : (tn == 0) = false := beq_eq_false_iff_ne.2 hn; have hres := Lib.hid (show tot = false by rw [← htot'.out]; simp [headOk, hn]); clear hes; go_enter Tryz.func152, Tryz.ntmps152; go_wp2; go_ret; exact ⟨by rw [hres.out]; rfl, hB0⟩
      subst hn; rcases hes with hz | hz
      rotate_left 1
      · have e1 : ts.toList.isEmpty = false := toList_ne hz; have e2 : ¬ ts.toList = [] := fun h => by rw [h] at e1; cases e1
        have hres := Lib.hid (show tot = false by rw [← htot'.out]; simp [headOk, hz]); clear hz; go_enter Tryz.func152, Tryz.ntmps152; go_wp2; go_ret; exact ⟨by rw [hres.out]; rfl, hB0⟩
      have e1 : ts.toList = [] := toList_nil hz; have hres := Lib.hid (show tot = !q by rw [← htot'.out, hmayh.out]; simp [headOk, hz]); clear hz; go_enter Tryz.func152, Tryz.ntmps152; go_wp2_with (first | (go_at_call 157; refine hcf.out.mono ?_; rintro e w1 ⟨rfl, hB1⟩)); go_ret; exact ⟨by rw [hres.out]; rfl, hB0.trans (hB1.mono hB0.size)⟩
    by_cases q168 : tk = 168
    · subst q168; clear hks hls; by_cases hkl : ks.length = l.length
      rotate_left 1
      · have hkl1 : (ks.length != l.length) = true := bne_iff_ne.2 hkl; have hkl2 : ((ks.length : Int) != (l.length : Int)) = true := bne_iff_ne.2 (by omega); have hres := Lib.hid (show tot = false by rw [← htot'.out]; simp [headOk, hkl]); clear hes; go_enter Tryz.func152, Tryz.ntmps152; go_wp2; go_ret; exact ⟨by rw [hres.out]; rfl, hB0⟩
      have hkl1 : (ks.length != l.length) = false := by rw [hkl]; simp
      have hkl2 : ((ks.length : Int) != (l.length : Int)) = false := by rw [hkl]; simp
      have hklh := Lib.hid hkl; have hky0 := keyed_any _ ka kc ks hK0 hmk hT0.out; obtain ⟨u, hu⟩ : ∃ u, keysOk ks = u := ⟨_, rfl⟩
      rw [hu] at hky0; have hky := Lib.hid hky0; have huh := Lib.hid hu; clear hky0 hu hkl; cases u
      · have hres := Lib.hid (show tot = false by rw [← htot'.out]; simp [headOk, hklh.out, huh.out]); clear hes; go_enter Tryz.func152, Tryz.ntmps152; go_wp2_with (first | (go_at_call 160; refine hky.out.mono ?_; rintro e w1 ⟨rfl, hB1⟩; have hBk := hB0.trans (hB1.mono hB0.size); have bk := bb.pure hB1; have f1 := bk.at 1 rfl; have f2 := bk.at 2 rfl; have f4 := bk.at 4 rfl)); go_ret; exact ⟨by rw [hres.out]; rfl, hBk⟩
      by_cases hn : tn = 0
      rotate_left 1
      · have hn1 : (tn == 0) = false := beq_eq_false_iff_ne.2 hn; have hres := Lib.hid (show tot = false by rw [← htot'.out]; simp [headOk, hklh.out, huh.out, hn]); clear hes; go_enter Tryz.func152, Tryz.ntmps152; go_wp2_with (first | (go_at_call 160; refine hky.out.mono ?_; rintro e w1 ⟨rfl, hB1⟩; have hBk := hB0.trans (hB1.mono hB0.size); have bk := bb.pure hB1; have f1 := bk.at 1 rfl; have f2 := bk.at 2 rfl; have f4 := bk.at 4 rfl)); go_ret; exact ⟨by rw [hres.out]; rfl, hBk⟩
      subst hn; rcases hes with hz | hz
      rotate_left 1
      · have e1 : ts.toList.isEmpty = false := toList_ne hz; have e2 : ¬ ts.toList = [] := fun h => by rw [h] at e1; cases e1
        have hres := Lib.hid (show tot = false by rw [← htot'.out]; simp [headOk, hklh.out, huh.out, hz]); clear hz; go_enter Tryz.func152, Tryz.ntmps152; go_wp2_with (first | (go_at_call 160; refine hky.out.mono ?_; rintro e w1 ⟨rfl, hB1⟩; have hBk := hB0.trans (hB1.mono hB0.size); have bk := bb.pure hB1; have f1 := bk.at 1 rfl; have f2 := bk.at 2 rfl; have f4 := bk.at 4 rfl)); go_ret; exact ⟨by rw [hres.out]; rfl, hBk⟩
      have e1 : ts.toList = [] := toList_nil hz; have hres := Lib.hid (show tot = !q by rw [← htot'.out, hmayh.out]; simp [headOk, hz, hklh.out, huh.out]); clear hz; go_enter Tryz.func152, Tryz.ntmps152; go_wp2_with (first | (go_at_call 160; refine hky.out.mono ?_; rintro e w1 ⟨rfl, hB1⟩; have hBk := hB0.trans (hB1.mono hB0.size); have bk := bb.pure hB1; have f1 := bk.at 1 rfl; have f2 := bk.at 2 rfl; have f4 := bk.at 4 rfl; have hcf2 := Lib.hid (hcf3.out w1 hB1)) | (go_at_call 157; refine hcf2.out.mono ?_; rintro e w2 ⟨rfl, hB2⟩)); go_ret; exact ⟨by rw [hres.out]; rfl, hBk.trans (hB2.mono hBk.size)⟩
    have hno := Lib.hid (show headOk tk tn ts ks l.length = false from kind_ne ⟨q240, q8, q2, q49, q50, q149, q160, q168, q169⟩ _ _ _ _); obtain rfl := hks q168; obtain rfl := hls q168 q169; have r1 : (tk != 168) = true := bne_iff_ne.2 q168; have r2 : (tk != 169) = true := bne_iff_ne.2 q169; have s240 : (tk == 240) = false := beq_eq_false_iff_ne.2 q240; have s8 : (tk == 8) = false := beq_eq_false_iff_ne.2 q8; have s2 : (tk == 2) = false := beq_eq_false_iff_ne.2 q2; have s49 : (tk == 49) = false := beq_eq_false_iff_ne.2 q49; have s50 : (tk == 50) = false := beq_eq_false_iff_ne.2 q50; have s149 : (tk == 149) = false := beq_eq_false_iff_ne.2 q149; have s160 : (tk == 160) = false := beq_eq_false_iff_ne.2 q160; have s168 : (tk == 168) = false := beq_eq_false_iff_ne.2 q168; have s169 : (tk == 169) = false := beq_eq_false_iff_ne.2 q169; clear hks hls hes q240 q8 q2 q49 q50 q149 q160 q168 q169; have hres := Lib.hid (show tot = false by rw [← htot'.out]; rw [hno.out]; rfl); go_enter Tryz.func152, Tryz.ntmps152; go_wp2; go_ret; exact ⟨by rw [hres.out]; rfl, hB0⟩
def B4 (w : World) (b : Nat) (v : Value) : Prop := ∃ cs, Blk w b cs ∧ cs[4]? = some v
theorem B4.mk {w : World} {b : Nat} {v : Value} {cs : List Value} (h : Blk w b cs) (h4 : cs[4]? = some v) : B4 w b v := ⟨cs, h, h4⟩
theorem B4.pure {w w' : World} {b : Nat} {v : Value} (h : B4 w b v) (hB : Below w.heap.size w w') : B4 w' b v := by
  obtain ⟨cs, h1, h2⟩ := h; exact ⟨cs, h1.pure hB, h2⟩
theorem B4.at {w : World} {b : Nat} {v : Value} (h : B4 w b v) : w.cell? ⟨b, 4, none⟩ = some v := by
  obtain ⟨cs, h1, h2⟩ := h; exact h1.at 4 h2
theorem mayL_all {l : List VT} (h : ∀ j, (h : j < l.length) → l[j].v.may = true) : V.mayL (l.map VT.v) = true := by
  rw [mayL_any, Bool.not_eq_true', List.any_eq_false]; intro x hx; obtain ⟨j, hj, rfl⟩ := List.getElem_of_mem hx; simp [h j hj]
theorem mayL_no {l : List VT} {k : Nat} (hk : k < l.length) (h : l[k].v.may = false) : V.mayL (l.map VT.v) = false := by
  rw [mayL_any, Bool.not_eq_false', List.any_eq_true]; exact ⟨_, List.getElem_mem hk, by simp [h]⟩
set_option maxRecDepth 100000 in
set_option maxHeartbeats 1600000 in
theorem dmay_any (t : VT) : ∀ (P : Nat → Prop) (w : World), Rd P w t → Calls Tryz.prog 147 #[t.arg] w fun e w' => e = .returned (.bool t.v.may) ∧ Below w.heap.size w w' := by
  induction t using VT.ind with
  | h t ih =>
    intro P w  hR ; have hR0 := hR; obtain ⟨tk, tn, ts, ka, kc, la, lc, ks, l, rfl, hK, hL, hmk, hml⟩ := hR.open; rw [VT.arg_mk]; have hsub : ∀ x ∈ l, Rd P w x := hR.sub
    have ih' : ∀ x ∈ l, ∀ (P : Nat → Prop) (w : World), Rd P w x → Calls Tryz.prog 147 #[x.arg] w fun e w' => e = .returned (.bool x.v.may) ∧ Below w.heap.size w w' := ih
    have ihh := Lib.hid ih'; have hsubh := Lib.hid hsub; have hbn0 : 0 ≤ tn := hR.n0; have hbn1 := Lib.hid (show tn < 18446744073709551616 from hR.n1); have hbk0 : 0 ≤ tk := hR.k0; have hbk1 : tk < 256 := hR.k1; have hRh := Lib.hid hR0; clear ih ih' hsub hR hR0; have hB0 := (Below.refl w.heap.size w).alloc (Nat.le_refl _) (.cells #[.int .u8 tk, .int .u64 tn, .string ts, .slice ka ks.length kc, .slice la l.length lc] 31); have b0 := Blk.new w [.int .u8 tk, .int .u64 tn, .string ts, .slice ka ks.length kc, .slice la l.length lc] 31; have c0 := b0.at 0 rfl; have c1 := b0.at 1 rfl; have c2 := b0.at 2 rfl; have c3 := b0.at 3 rfl; have c4 := b0.at 4 rfl; rw [may_vt]; obtain ⟨tot, htot⟩ : ∃ tot, (headOk tk tn ts ks l.length && V.mayL (l.map VT.v)) = tot := ⟨_, rfl⟩
    rw [htot]; have htot' := Lib.hid htot; clear htot; have hK0 := hK.pure hB0; by_cases q8 : tk = 8
    · subst q8; by_cases hk0 : ks.length = 0
      rotate_left 1
      · have k2 : 0 < ks.length := by omega
        have k5 : ks ≠ [] := fun e => by rw [e] at k2; simp at k2
        have hres := Lib.hid (show tot = false by rw [← htot'.out]; have h2 : ks.isEmpty = false := (by rw [Bool.eq_false_iff, ne_eq, List.isEmpty_iff]; exact k5); unfold headOk; rw [h2]; simp); clear hk0 k5; go_enter Tryz.func147, Tryz.ntmps147; go_wp2; go_ret; exact ⟨by rw [hres.out]; rfl, hB0⟩
      obtain rfl : ks = [] := List.length_eq_zero_iff.1 hk0; clear hk0; by_cases hl0 : l.length = 0
      rotate_left 1
      · have k2 : 0 < l.length := by omega
        have hres := Lib.hid (show tot = false by rw [← htot'.out]; have h3 : (l.length == 0) = false := beq_eq_false_iff_ne.2 hl0; unfold headOk; rw [h3]; simp); clear hl0; go_enter Tryz.func147, Tryz.ntmps147; go_wp2; go_ret; exact ⟨by rw [hres.out]; rfl, hB0⟩
      have hl0h := Lib.hid hl0; obtain rfl : l = [] := List.length_eq_zero_iff.1 hl0; clear hl0; by_cases hz : ts.size = 0
      rotate_left 1
      · have e1 : ts.toList.isEmpty = false := toList_ne hz; have e2 : ¬ ts.toList = [] := fun h => by rw [h] at e1; cases e1
        have hres := Lib.hid (show tot = false by rw [← htot'.out]; rw [Bool.and_eq_false_iff]; left; rw [Bool.eq_false_iff]; intro e; rcases headOk_cases e with h | h | h | h | h | h | h | h <;> omega); clear hz; go_enter Tryz.func147, Tryz.ntmps147; go_wp2; go_ret; exact ⟨by rw [hres.out]; rfl, hB0⟩
      have e1 : ts.toList = [] := toList_nil hz; have hz0 : (ts.size : Int) = 0 := by omega
      have hz1 : decide ((4096 : Int) < (ts.size : Int)) = false := decide_eq_false (by omega); have hzh := Lib.hid hz; clear hz hz0; by_cases hn : tn ≤ 1
      · skip; have hres := Lib.hid (show tot = true by rw [← htot'.out]; simp [headOk, hzh.out, hn, V.mayL]); go_enter Tryz.func147, Tryz.ntmps147; go_wp2; go_ret; exact ⟨by rw [hres.out]; rfl, hB0⟩
      · have hn1 : 1 < tn := by omega
        have hres := Lib.hid (show tot = false by rw [← htot'.out]; simp [headOk, hn]); go_enter Tryz.func147, Tryz.ntmps147; go_wp2; go_ret; exact ⟨by rw [hres.out]; rfl, hB0⟩
    by_cases q2 : tk = 2
    · subst q2; by_cases hk0 : ks.length = 0
      rotate_left 1
      · have k2 : 0 < ks.length := by omega
        have k5 : ks ≠ [] := fun e => by rw [e] at k2; simp at k2
        have hres := Lib.hid (show tot = false by rw [← htot'.out]; have h2 : ks.isEmpty = false := (by rw [Bool.eq_false_iff, ne_eq, List.isEmpty_iff]; exact k5); unfold headOk; rw [h2]; simp); clear hk0 k5; go_enter Tryz.func147, Tryz.ntmps147; go_wp2; go_ret; exact ⟨by rw [hres.out]; rfl, hB0⟩
      obtain rfl : ks = [] := List.length_eq_zero_iff.1 hk0; clear hk0; by_cases hl0 : l.length = 0
      rotate_left 1
      · have k2 : 0 < l.length := by omega
        have hres := Lib.hid (show tot = false by rw [← htot'.out]; have h3 : (l.length == 0) = false := beq_eq_false_iff_ne.2 hl0; unfold headOk; rw [h3]; simp); clear hl0; go_enter Tryz.func147, Tryz.ntmps147; go_wp2; go_ret; exact ⟨by rw [hres.out]; rfl, hB0⟩
      have hl0h := Lib.hid hl0; obtain rfl : l = [] := List.length_eq_zero_iff.1 hl0; clear hl0; by_cases hz : ts.size = 0
      rotate_left 1
      · have e1 : ts.toList.isEmpty = false := toList_ne hz; have e2 : ¬ ts.toList = [] := fun h => by rw [h] at e1; cases e1
        have hres := Lib.hid (show tot = false by rw [← htot'.out]; rw [Bool.and_eq_false_iff]; left; rw [Bool.eq_false_iff]; intro e; rcases headOk_cases e with h | h | h | h | h | h | h | h <;> omega); clear hz; go_enter Tryz.func147, Tryz.ntmps147; go_wp2; go_ret; exact ⟨by rw [hres.out]; rfl, hB0⟩
      have e1 : ts.toList = [] := toList_nil hz; have hz0 : (ts.size : Int) = 0 := by omega
      have hz1 : decide ((4096 : Int) < (ts.size : Int)) = false := decide_eq_false (by omega); have hzh := Lib.hid hz; clear hz hz0; by_cases hn : tn ≤ 255
      · skip; have hres := Lib.hid (show tot = true by rw [← htot'.out]; simp [headOk, hzh.out, hn, V.mayL]); go_enter Tryz.func147, Tryz.ntmps147; go_wp2; go_ret; exact ⟨by rw [hres.out]; rfl, hB0⟩
      · have hn1 : 255 < tn := by omega
        have hres := Lib.hid (show tot = false by rw [← htot'.out]; simp [headOk, hn]); go_enter Tryz.func147, Tryz.ntmps147; go_wp2; go_ret; exact ⟨by rw [hres.out]; rfl, hB0⟩
    by_cases q49 : tk = 49
    · subst q49; by_cases hk0 : ks.length = 0
      rotate_left 1
      · have k2 : 0 < ks.length := by omega
        have k5 : ks ≠ [] := fun e => by rw [e] at k2; simp at k2
        have hres := Lib.hid (show tot = false by rw [← htot'.out]; have h2 : ks.isEmpty = false := (by rw [Bool.eq_false_iff, ne_eq, List.isEmpty_iff]; exact k5); unfold headOk; rw [h2]; simp); clear hk0 k5; go_enter Tryz.func147, Tryz.ntmps147; go_wp2; go_ret; exact ⟨by rw [hres.out]; rfl, hB0⟩
      obtain rfl : ks = [] := List.length_eq_zero_iff.1 hk0; clear hk0; by_cases hl0 : l.length = 0
      rotate_left 1
      · have k2 : 0 < l.length := by omega
        have hres := Lib.hid (show tot = false by rw [← htot'.out]; have h3 : (l.length == 0) = false := beq_eq_false_iff_ne.2 hl0; unfold headOk; rw [h3]; simp); clear hl0; go_enter Tryz.func147, Tryz.ntmps147; go_wp2; go_ret; exact ⟨by rw [hres.out]; rfl, hB0⟩
      have hl0h := Lib.hid hl0; obtain rfl : l = [] := List.length_eq_zero_iff.1 hl0; clear hl0; by_cases hz : ts.size = 0
      rotate_left 1
      · have e1 : ts.toList.isEmpty = false := toList_ne hz; have e2 : ¬ ts.toList = [] := fun h => by rw [h] at e1; cases e1
        have hres := Lib.hid (show tot = false by rw [← htot'.out]; rw [Bool.and_eq_false_iff]; left; rw [Bool.eq_false_iff]; intro e; rcases headOk_cases e with h | h | h | h | h | h | h | h <;> omega); clear hz; go_enter Tryz.func147, Tryz.ntmps147; go_wp2; go_ret; exact ⟨by rw [hres.out]; rfl, hB0⟩
      have e1 : ts.toList = [] := toList_nil hz; have hz0 : (ts.size : Int) = 0 := by omega
      have hz1 : decide ((4096 : Int) < (ts.size : Int)) = false := decide_eq_false (by omega); have hzh := Lib.hid hz; clear hz hz0; have hres := Lib.hid (show tot = true by rw [← htot'.out]; simp [headOk, hzh.out, V.mayL]); go_enter Tryz.func147, Tryz.ntmps147; go_wp2; go_ret; exact ⟨by rw [hres.out]; rfl, hB0⟩
    by_cases q50 : tk = 50
    · subst q50; by_cases hk0 : ks.length = 0
      rotate_left 1
      · have k2 : 0 < ks.length := by omega
        have k5 : ks ≠ [] := fun e => by rw [e] at k2; simp at k2
        have hres := Lib.hid (show tot = false by rw [← htot'.out]; have h2 : ks.isEmpty = false := (by rw [Bool.eq_false_iff, ne_eq, List.isEmpty_iff]; exact k5); unfold headOk; rw [h2]; simp); clear hk0 k5; go_enter Tryz.func147, Tryz.ntmps147; go_wp2; go_ret; exact ⟨by rw [hres.out]; rfl, hB0⟩
      obtain rfl : ks = [] := List.length_eq_zero_iff.1 hk0; clear hk0; by_cases hl0 : l.length = 0
      rotate_left 1
      · have k2 : 0 < l.length := by omega
        have hres := Lib.hid (show tot = false by rw [← htot'.out]; have h3 : (l.length == 0) = false := beq_eq_false_iff_ne.2 hl0; unfold headOk; rw [h3]; simp); clear hl0; go_enter Tryz.func147, Tryz.ntmps147; go_wp2; go_ret; exact ⟨by rw [hres.out]; rfl, hB0⟩
      have hl0h := Lib.hid hl0; obtain rfl : l = [] := List.length_eq_zero_iff.1 hl0; clear hl0; by_cases hz : ts.size = 0
      rotate_left 1
      · have e1 : ts.toList.isEmpty = false := toList_ne hz; have e2 : ¬ ts.toList = [] := fun h => by rw [h] at e1; cases e1
        have hres := Lib.hid (show tot = false by rw [← htot'.out]; rw [Bool.and_eq_false_iff]; left; rw [Bool.eq_false_iff]; intro e; rcases headOk_cases e with h | h | h | h | h | h | h | h <;> omega); clear hz; go_enter Tryz.func147, Tryz.ntmps147; go_wp2; go_ret; exact ⟨by rw [hres.out]; rfl, hB0⟩
      have e1 : ts.toList = [] := toList_nil hz; have hz0 : (ts.size : Int) = 0 := by omega
      have hz1 : decide ((4096 : Int) < (ts.size : Int)) = false := decide_eq_false (by omega); have hzh := Lib.hid hz; clear hz hz0; have hres := Lib.hid (show tot = true by rw [← htot'.out]; simp [headOk, hzh.out, V.mayL]); go_enter Tryz.func147, Tryz.ntmps147; go_wp2; go_ret; exact ⟨by rw [hres.out]; rfl, hB0⟩
    by_cases q240 : tk = 240
    · subst q240; by_cases hk0 : ks.length = 0
      rotate_left 1
      · have k2 : 0 < ks.length := by omega
        have k5 : ks ≠ [] := fun e => by rw [e] at k2; simp at k2
        have hres := Lib.hid (show tot = false by rw [← htot'.out]; have h2 : ks.isEmpty = false := (by rw [Bool.eq_false_iff, ne_eq, List.isEmpty_iff]; exact k5); unfold headOk; rw [h2]; simp); clear hk0 k5; go_enter Tryz.func147, Tryz.ntmps147; go_wp2; go_ret; exact ⟨by rw [hres.out]; rfl, hB0⟩
      obtain rfl : ks = [] := List.length_eq_zero_iff.1 hk0; clear hk0; by_cases hl0 : l.length = 0
      rotate_left 1
      · have k2 : 0 < l.length := by omega
        have hres := Lib.hid (show tot = false by rw [← htot'.out]; have h3 : (l.length == 0) = false := beq_eq_false_iff_ne.2 hl0; unfold headOk; rw [h3]; simp); clear hl0; go_enter Tryz.func147, Tryz.ntmps147; go_wp2; go_ret; exact ⟨by rw [hres.out]; rfl, hB0⟩
      have hl0h := Lib.hid hl0; have hl1 : (l.length : Int) = 0 ∨ True := .inr trivial; clear hl1 hl0; have hl2 : ¬ 0 < l.length := by have := hl0h.out; omega
      have hl3 : decide (0 < l.length) = false := decide_eq_false hl2; by_cases hz : ts.size = 0
      rotate_left 1
      · have e1 : ts.toList.isEmpty = false := toList_ne hz; have e2 : ¬ ts.toList = [] := fun h => by rw [h] at e1; cases e1
        have hres := Lib.hid (show tot = false by rw [← htot'.out]; rw [Bool.and_eq_false_iff]; left; rw [Bool.eq_false_iff]; intro e; rcases headOk_cases e with h | h | h | h | h | h | h | h <;> omega); clear hz; go_enter Tryz.func147, Tryz.ntmps147; go_wp2; go_ret; exact ⟨by rw [hres.out]; rfl, hB0⟩
      have e1 : ts.toList = [] := toList_nil hz; have hz0 : (ts.size : Int) = 0 := by omega
      have hz1 : decide ((4096 : Int) < (ts.size : Int)) = false := decide_eq_false (by omega); have hzh := Lib.hid hz; clear hz hz0; by_cases hn : tn = 0
      rotate_left 1
      · have hn1 : (tn != 0) = true := bne_iff_ne.2 hn; have hres := Lib.hid (show tot = false by rw [← htot'.out]; simp [headOk, hn]); go_enter Tryz.func147, Tryz.ntmps147; go_wp2; go_ret; exact ⟨by rw [hres.out]; rfl, hB0⟩
      subst hn; have htl := Lib.hid (show tot = V.mayL (l.map VT.v) by rw [← htot'.out]; simp [headOk, hl0h.out, hzh.out]); go_enter Tryz.func147, Tryz.ntmps147; go_wp2; go_loopw [5] (fun s5 wr => ∃ k : Nat, k ≤ l.length ∧ s5 = .int .i64 k ∧ Hid (∀ j, (h : j < l.length) → j < k → l[j].v.may = true) ∧ Hid (B4 wr w.heap.size (.slice la l.length lc)) ∧ Below w.heap.size w wr) (fun s5 _ => l.length - (intOf s5).toNat)
      case atStart => exact ⟨0, by omega, rfl, Lib.hid (fun j h h0 => absurd h0 (by omega)), Lib.hid (B4.mk b0 rfl), hB0⟩
      case round =>
        clear c0 c1 c2 c3 c4 b0 hB0; obtain ⟨k, hk, rfl, hno, bh, hB⟩ := hrel; have c4 := bh.out.at; by_cases hlt : k < l.length
        · omega
        · obtain rfl : k = l.length := by omega
          have hres := Lib.hid (show tot = true by rw [htl.out]; exact mayL_all (fun j h => hno.out j h h)); go_wp2; go_ret; exact ⟨by rw [hres.out]; rfl, hB⟩
    by_cases q160 : tk = 160
    · subst q160; by_cases hk0 : ks.length = 0
      rotate_left 1
      · have k2 : 0 < ks.length := by omega
        have k5 : ks ≠ [] := fun e => by rw [e] at k2; simp at k2
        have hres := Lib.hid (show tot = false by rw [← htot'.out]; have h2 : ks.isEmpty = false := (by rw [Bool.eq_false_iff, ne_eq, List.isEmpty_iff]; exact k5); unfold headOk; rw [h2]; simp); clear hk0 k5; go_enter Tryz.func147, Tryz.ntmps147; go_wp2; go_ret; exact ⟨by rw [hres.out]; rfl, hB0⟩
      obtain rfl : ks = [] := List.length_eq_zero_iff.1 hk0; clear hk0; by_cases hl0 : l.length = 0
      rotate_left 1
      · have k2 : 0 < l.length := by omega
        have hres := Lib.hid (show tot = false by rw [← htot'.out]; have h3 : (l.length == 0) = false := beq_eq_false_iff_ne.2 hl0; unfold headOk; rw [h3]; simp); clear hl0; go_enter Tryz.func147, Tryz.ntmps147; go_wp2; go_ret; exact ⟨by rw [hres.out]; rfl, hB0⟩
      have hl0h := Lib.hid hl0; have hl1 : (l.length : Int) = 0 ∨ True := .inr trivial; clear hl1 hl0; have hl2 : ¬ 0 < l.length := by have := hl0h.out; omega
      have hl3 : decide (0 < l.length) = false := decide_eq_false hl2; by_cases hz : ts.size ≤ 4096
      rotate_left 1
      · have hz1 : decide ((4096 : Int) < (ts.size : Int)) = true := decide_eq_true (by omega); have hres := Lib.hid (show tot = false by rw [← htot'.out]; rw [Bool.and_eq_false_iff]; left; rw [Bool.eq_false_iff]; intro e; rcases headOk_cases e with h | h | h | h | h | h | h | h <;> omega); clear hz; go_enter Tryz.func147, Tryz.ntmps147; go_wp2; go_ret; exact ⟨by rw [hres.out]; rfl, hB0⟩
      have hz1 : decide ((4096 : Int) < (ts.size : Int)) = false := decide_eq_false (by omega); have hzi : (ts.size : Int) ≤ 4096 := by omega
      have hzh := Lib.hid hz; clear hz; by_cases hn : tn = 0
      rotate_left 1
      · have hn1 : (tn != 0) = true := bne_iff_ne.2 hn; have hres := Lib.hid (show tot = false by rw [← htot'.out]; simp [headOk, hn]); go_enter Tryz.func147, Tryz.ntmps147; go_wp2; go_ret; exact ⟨by rw [hres.out]; rfl, hB0⟩
      subst hn; have htl := Lib.hid (show tot = V.mayL (l.map VT.v) by rw [← htot'.out]; simp [headOk, hl0h.out, hzh.out]); go_enter Tryz.func147, Tryz.ntmps147; go_wp2; go_loopw [5] (fun s5 wr => ∃ k : Nat, k ≤ l.length ∧ s5 = .int .i64 k ∧ Hid (∀ j, (h : j < l.length) → j < k → l[j].v.may = true) ∧ Hid (B4 wr w.heap.size (.slice la l.length lc)) ∧ Below w.heap.size w wr) (fun s5 _ => l.length - (intOf s5).toNat)
      case atStart => exact ⟨0, by omega, rfl, Lib.hid (fun j h h0 => absurd h0 (by omega)), Lib.hid (B4.mk b0 rfl), hB0⟩
      case round =>
        clear c0 c1 c2 c3 c4 b0 hB0; obtain ⟨k, hk, rfl, hno, bh, hB⟩ := hrel; have c4 := bh.out.at; by_cases hlt : k < l.length
        · omega
        · obtain rfl : k = l.length := by omega
          have hres := Lib.hid (show tot = true by rw [htl.out]; exact mayL_all (fun j h => hno.out j h h)); go_wp2; go_ret; exact ⟨by rw [hres.out]; rfl, hB⟩
    by_cases q169 : tk = 169
    · subst q169; by_cases hk0 : ks.length = 0
      rotate_left 1
      · have k2 : 0 < ks.length := by omega
        have k5 : ks ≠ [] := fun e => by rw [e] at k2; simp at k2
        have hres := Lib.hid (show tot = false by rw [← htot'.out]; have h2 : ks.isEmpty = false := (by rw [Bool.eq_false_iff, ne_eq, List.isEmpty_iff]; exact k5); unfold headOk; rw [h2]; simp); clear hk0 k5; go_enter Tryz.func147, Tryz.ntmps147; go_wp2; go_ret; exact ⟨by rw [hres.out]; rfl, hB0⟩
      obtain rfl : ks = [] := List.length_eq_zero_iff.1 hk0; clear hk0; by_cases hz : ts.size = 0
      rotate_left 1
      · have e1 : ts.toList.isEmpty = false := toList_ne hz; have e2 : ¬ ts.toList = [] := fun h => by rw [h] at e1; cases e1
        have hres := Lib.hid (show tot = false by rw [← htot'.out]; rw [Bool.and_eq_false_iff]; left; rw [Bool.eq_false_iff]; intro e; rcases headOk_cases e with h | h | h | h | h | h | h | h <;> omega); clear hz; go_enter Tryz.func147, Tryz.ntmps147; go_wp2; go_ret; exact ⟨by rw [hres.out]; rfl, hB0⟩
      have e1 : ts.toList = [] := toList_nil hz; have hz0 : (ts.size : Int) = 0 := by omega
      have hz1 : decide ((4096 : Int) < (ts.size : Int)) = false := decide_eq_false (by omega); have hzh := Lib.hid hz; clear hz hz0; by_cases hn : tn = 0
      rotate_left 1
      · have hn1 : (tn != 0) = true := bne_iff_ne.2 hn; have hres := Lib.hid (show tot = false by rw [← htot'.out]; simp [headOk, hn]); go_enter Tryz.func147, Tryz.ntmps147; go_wp2; go_ret; exact ⟨by rw [hres.out]; rfl, hB0⟩
      subst hn; have htl := Lib.hid (show tot = V.mayL (l.map VT.v) by rw [← htot'.out]; simp [headOk, hzh.out]); go_enter Tryz.func147, Tryz.ntmps147; go_wp2; go_loopw [5] (fun s5 wr => ∃ k : Nat, k ≤ l.length ∧ s5 = .int .i64 k ∧ Hid (∀ j, (h : j < l.length) → j < k → l[j].v.may = true) ∧ Hid (B4 wr w.heap.size (.slice la l.length lc)) ∧ Below w.heap.size w wr) (fun s5 _ => l.length - (intOf s5).toNat)
      case atStart => exact ⟨0, by omega, rfl, Lib.hid (fun j h h0 => absurd h0 (by omega)), Lib.hid (B4.mk b0 rfl), hB0⟩
      case round =>
        clear c0 c1 c2 c3 c4 b0 hB0; obtain ⟨k, hk, rfl, hno, bh, hB⟩ := hrel; have c4 := bh.out.at; by_cases hlt : k < l.length
        · have h1 : (k : Int) < (l.length : Int) := by omega
          have hLk := hL.pure hB; obtain ⟨g, off, rfl⟩ := hLk.addrB hlt; have hRk := (hsubh.out l[k] (List.getElem_mem hlt)).pure hB; obtain ⟨xk, xn, xs, xka, xkl, xkc, xla, xll, xlc, xks, xl, hx, q0, q1, q2, q3, q4⟩ := v_elem hLk hlt hRk; have hi := ihh.out l[k] (List.getElem_mem hlt) P _ hRk; obtain ⟨r, hr⟩ : ∃ r, l[k].v.may = r := ⟨_, rfl⟩
          rw [hr, hx, VT.arg_mk] at hi; have hrh := Lib.hid hr; have hih := Lib.hid hi; clear hi hr hx; cases r
          · have hres := Lib.hid (show tot = false by rw [htl.out]; exact mayL_no hlt hrh.out); go_wp2_with (go_at_call 147; (with_reducible refine hih.out.mono ?_); rintro e w1 ⟨rfl, hB1⟩; have hB2 := hB.trans (hB1.mono hB.size)); go_ret; exact ⟨by rw [hres.out]; rfl, hB2⟩
          · go_wp2_with (go_at_call 147; (with_reducible refine hih.out.mono ?_); rintro e w1 ⟨rfl, hB1⟩; have hB2 := hB.trans (hB1.mono hB.size)); go_roundw
            case rel => exact ⟨k + 1, by omega, by go_num, Lib.hid (fun j h h0 => by
              rcases Nat.lt_or_ge j k with h' | h'
              · exact hno.out j h h'
              · obtain rfl : j = k := by omega
                exact hrh.out), Lib.hid (bh.out.pure hB1), hB2⟩
            case measure => simp [intOf]; omega
        · obtain rfl : k = l.length := by omega
          have hres := Lib.hid (show tot = true by rw [htl.out]; exact mayL_all (fun j h => hno.out j h h)); go_wp2; go_ret; exact ⟨by rw [hres.out]; rfl, hB⟩
    by_cases q149 : tk = 149
    · subst q149; by_cases hk0 : ks.length = 0
      rotate_left 1
      · have k2 : 0 < ks.length := by omega
        have k5 : ks ≠ [] := fun e => by rw [e] at k2; simp at k2
        have hres := Lib.hid (show tot = false by rw [← htot'.out]; have h2 : ks.isEmpty = false := (by rw [Bool.eq_false_iff, ne_eq, List.isEmpty_iff]; exact k5); unfold headOk; rw [h2]; simp); clear hk0 k5; go_enter Tryz.func147, Tryz.ntmps147; go_wp2; go_ret; exact ⟨by rw [hres.out]; rfl, hB0⟩
      obtain rfl : ks = [] := List.length_eq_zero_iff.1 hk0; clear hk0; by_cases hl0 : l.length = 0
      rotate_left 1
      · have k2 : 0 < l.length := by omega
        have hres := Lib.hid (show tot = false by rw [← htot'.out]; have h3 : (l.length == 0) = false := beq_eq_false_iff_ne.2 hl0; unfold headOk; rw [h3]; simp); clear hl0; go_enter Tryz.func147, Tryz.ntmps147; go_wp2; go_ret; exact ⟨by rw [hres.out]; rfl, hB0⟩
      have hl0h := Lib.hid hl0; have hl1 : (l.length : Int) = 0 ∨ True := .inr trivial; clear hl1 hl0; have hl2 : ¬ 0 < l.length := by have := hl0h.out; omega
      have hl3 : decide (0 < l.length) = false := decide_eq_false hl2; by_cases hz : ts.size ≤ 4096
      rotate_left 1
      · have hz1 : decide ((4096 : Int) < (ts.size : Int)) = true := decide_eq_true (by omega); have hres := Lib.hid (show tot = false by rw [← htot'.out]; rw [Bool.and_eq_false_iff]; left; rw [Bool.eq_false_iff]; intro e; rcases headOk_cases e with h | h | h | h | h | h | h | h <;> omega); clear hz; go_enter Tryz.func147, Tryz.ntmps147; go_wp2; go_ret; exact ⟨by rw [hres.out]; rfl, hB0⟩
      have hz1 : decide ((4096 : Int) < (ts.size : Int)) = false := decide_eq_false (by omega); have hzi : (ts.size : Int) ≤ 4096 := by omega
      have hzh := Lib.hid hz; clear hz; have hpl0 := fun u => dutf8_any ts u (by omega)
      obtain ⟨u, hu⟩ : ∃ u, u8s ts = u := ⟨_, rfl⟩
      simp only [hu] at hpl0; have hpl := Lib.hid hpl0; have huh := Lib.hid hu; clear hpl0 hu; cases u
      · skip; have hres := Lib.hid (show tot = false by rw [← htot'.out]; simp [headOk, huh.out, hzh.out]); go_enter Tryz.func147, Tryz.ntmps147; go_wp2_with (first | (go_at_call 155; refine (hpl.out _).mono ?_; rintro e w1 ⟨rfl, rfl⟩)); go_ret; exact ⟨by rw [hres.out]; rfl, hB0⟩
      by_cases hn : tn = 0
      rotate_left 1
      · have hn1 : (tn != 0) = true := bne_iff_ne.2 hn; have hres := Lib.hid (show tot = false by rw [← htot'.out]; simp [headOk, hn]); go_enter Tryz.func147, Tryz.ntmps147; go_wp2_with (first | (go_at_call 155; refine (hpl.out _).mono ?_; rintro e w1 ⟨rfl, rfl⟩)); go_ret; exact ⟨by rw [hres.out]; rfl, hB0⟩
      subst hn; have htl := Lib.hid (show tot = V.mayL (l.map VT.v) by rw [← htot'.out]; simp [headOk, hl0h.out, hzh.out, huh.out]); go_enter Tryz.func147, Tryz.ntmps147; go_wp2_with (first | (go_at_call 155; refine (hpl.out _).mono ?_; rintro e w1 ⟨rfl, rfl⟩)); go_loopw [5] (fun s5 wr => ∃ k : Nat, k ≤ l.length ∧ s5 = .int .i64 k ∧ Hid (∀ j, (h : j < l.length) → j < k → l[j].v.may = true) ∧ Hid (B4 wr w.heap.size (.slice la l.length lc)) ∧ Below w.heap.size w wr) (fun s5 _ => l.length - (intOf s5).toNat)
      case atStart => exact ⟨0, by omega, rfl, Lib.hid (fun j h h0 => absurd h0 (by omega)), Lib.hid (B4.mk b0 rfl), hB0⟩
      case round =>
        clear c0 c1 c2 c3 c4 b0 hB0; obtain ⟨k, hk, rfl, hno, bh, hB⟩ := hrel; have c4 := bh.out.at; by_cases hlt : k < l.length
        · omega
        · obtain rfl : k = l.length := by omega
          have hres := Lib.hid (show tot = true by rw [htl.out]; exact mayL_all (fun j h => hno.out j h h)); go_wp2; go_ret; exact ⟨by rw [hres.out]; rfl, hB⟩
    by_cases q168 : tk = 168
    · subst q168; by_cases hz : ts.size = 0
      rotate_left 1
      · have e1 : ts.toList.isEmpty = false := toList_ne hz; have e2 : ¬ ts.toList = [] := fun h => by rw [h] at e1; cases e1
        have hres := Lib.hid (show tot = false by rw [← htot'.out]; rw [Bool.and_eq_false_iff]; left; rw [Bool.eq_false_iff]; intro e; rcases headOk_cases e with h | h | h | h | h | h | h | h <;> omega); clear hz; go_enter Tryz.func147, Tryz.ntmps147; go_wp2; go_ret; exact ⟨by rw [hres.out]; rfl, hB0⟩
      have e1 : ts.toList = [] := toList_nil hz; have hz0 : (ts.size : Int) = 0 := by omega
      have hz1 : decide ((4096 : Int) < (ts.size : Int)) = false := decide_eq_false (by omega); have hzh := Lib.hid hz; clear hz hz0; by_cases hkl : ks.length = l.length
      rotate_left 1
      · have hkl1 : (ks.length != l.length) = true := bne_iff_ne.2 hkl; have hkl2 : ((ks.length : Int) != (l.length : Int)) = true := bne_iff_ne.2 (by omega); have hres := Lib.hid (show tot = false by rw [← htot'.out]; simp [headOk, hkl]); go_enter Tryz.func147, Tryz.ntmps147; go_wp2; go_ret; exact ⟨by rw [hres.out]; rfl, hB0⟩
      have hkl1 : (ks.length != l.length) = false := by rw [hkl]; simp
      have hkl2 : ((ks.length : Int) != (l.length : Int)) = false := by rw [hkl]; simp
      have hklh := Lib.hid hkl; have hky0 := dkeys_any _ ka kc ks hK0 hmk; obtain ⟨u, hu⟩ : ∃ u, keysOk ks = u := ⟨_, rfl⟩
      rw [hu] at hky0; have hky := Lib.hid hky0; have huh := Lib.hid hu; have bb := b0; clear hky0 hu hkl; cases u
      · skip; have hres := Lib.hid (show tot = false by rw [← htot'.out]; simp [headOk, hklh.out, huh.out]); go_enter Tryz.func147, Tryz.ntmps147; go_wp2_with (first | (go_at_call 156; refine hky.out.mono ?_; rintro e w1 ⟨rfl, hB1⟩; have hBk := hB0.trans (hB1.mono hB0.size); have bk := bb.pure hB1; have f1 := bk.at 1 rfl; have f2 := bk.at 2 rfl; have f4 := bk.at 4 rfl)); go_ret; exact ⟨by rw [hres.out]; rfl, hBk⟩
      by_cases hn : tn = 0
      rotate_left 1
      · have hn1 : (tn != 0) = true := bne_iff_ne.2 hn; have hres := Lib.hid (show tot = false by rw [← htot'.out]; simp [headOk, hn]); go_enter Tryz.func147, Tryz.ntmps147; go_wp2_with (first | (go_at_call 156; refine hky.out.mono ?_; rintro e w1 ⟨rfl, hB1⟩; have hBk := hB0.trans (hB1.mono hB0.size); have bk := bb.pure hB1; have f1 := bk.at 1 rfl; have f2 := bk.at 2 rfl; have f4 := bk.at 4 rfl)); go_ret; exact ⟨by rw [hres.out]; rfl, hBk⟩
      subst hn; have htl := Lib.hid (show tot = V.mayL (l.map VT.v) by rw [← htot'.out]; simp [headOk, hklh.out, hzh.out, huh.out]); go_enter Tryz.func147, Tryz.ntmps147; go_wp2_with (first | (go_at_call 156; refine hky.out.mono ?_; rintro e w1 ⟨rfl, hB1⟩; have hBk := hB0.trans (hB1.mono hB0.size); have bk := bb.pure hB1; have f1 := bk.at 1 rfl; have f2 := bk.at 2 rfl; have f4 := bk.at 4 rfl)); go_loopw [5] (fun s5 wr => ∃ k : Nat, k ≤ l.length ∧ s5 = .int .i64 k ∧ Hid (∀ j, (h : j < l.length) → j < k → l[j].v.may = true) ∧ Hid (B4 wr w.heap.size (.slice la l.length lc)) ∧ Below w.heap.size w wr) (fun s5 _ => l.length - (intOf s5).toNat)
      case atStart => exact ⟨0, by omega, rfl, Lib.hid (fun j h h0 => absurd h0 (by omega)), Lib.hid (B4.mk bk rfl), hBk⟩
      case round =>
        clear c0 c1 c2 c3 c4 b0 hB0; obtain ⟨k, hk, rfl, hno, bh, hB⟩ := hrel; have c4 := bh.out.at; by_cases hlt : k < l.length
        · have h1 : (k : Int) < (l.length : Int) := by omega
          have hLk := hL.pure hB; obtain ⟨g, off, rfl⟩ := hLk.addrB hlt; have hRk := (hsubh.out l[k] (List.getElem_mem hlt)).pure hB; obtain ⟨xk, xn, xs, xka, xkl, xkc, xla, xll, xlc, xks, xl, hx, q0, q1, q2, q3, q4⟩ := v_elem hLk hlt hRk; have hi := ihh.out l[k] (List.getElem_mem hlt) P _ hRk; obtain ⟨r, hr⟩ : ∃ r, l[k].v.may = r := ⟨_, rfl⟩
          rw [hr, hx, VT.arg_mk] at hi; have hrh := Lib.hid hr; have hih := Lib.hid hi; clear hi hr hx; cases r
          · have hres := Lib.hid (show tot = false by rw [htl.out]; exact mayL_no hlt hrh.out); go_wp2_with (go_at_call 147; (with_reducible refine hih.out.mono ?_); rintro e w1 ⟨rfl, hB1⟩; have hB2 := hB.trans (hB1.mono hB.size)); go_ret; exact ⟨by rw [hres.out]; rfl, hB2⟩
          · go_wp2_with (go_at_call 147; (with_reducible refine hih.out.mono ?_); rintro e w1 ⟨rfl, hB1⟩; have hB2 := hB.trans (hB1.mono hB.size)); go_roundw
            case rel => exact ⟨k + 1, by omega, by go_num, Lib.hid (fun j h h0 => by
              rcases Nat.lt_or_ge j k with h' | h'
              · exact hno.out j h h'
              · obtain rfl : j = k := by omega
                exact hrh.out), Lib.hid (bh.out.pure hB1), hB2⟩
            case measure => simp [intOf]; omega
        · obtain rfl : k = l.length := by omega
          have hres := Lib.hid (show tot = true by rw [htl.out]; exact mayL_all (fun j h => hno.out j h h)); go_wp2; go_ret; exact ⟨by rw [hres.out]; rfl, hB⟩
    have hno0 := Lib.hid (show headOk tk tn ts ks l.length = false from kind_ne ⟨q240, q8, q2, q49, q50, q149, q160, q168, q169⟩ _ _ _ _); have s240 : (tk == 240) = false := beq_eq_false_iff_ne.2 q240; have s8 : (tk == 8) = false := beq_eq_false_iff_ne.2 q8; have s2 : (tk == 2) = false := beq_eq_false_iff_ne.2 q2; have s49 : (tk == 49) = false := beq_eq_false_iff_ne.2 q49; have s50 : (tk == 50) = false := beq_eq_false_iff_ne.2 q50; have s149 : (tk == 149) = false := beq_eq_false_iff_ne.2 q149; have s160 : (tk == 160) = false := beq_eq_false_iff_ne.2 q160; have s168 : (tk == 168) = false := beq_eq_false_iff_ne.2 q168; have s169 : (tk == 169) = false := beq_eq_false_iff_ne.2 q169; have r1 : (tk != 168) = true := bne_iff_ne.2 q168; by_cases hk0 : ks.length = 0
    rotate_left 1
    · have k2 : 0 < ks.length := by omega
      have k5 : ks ≠ [] := fun e => by rw [e] at k2; simp at k2
      have hres := Lib.hid (show tot = false by rw [← htot'.out]; have h2 : ks.isEmpty = false := (by rw [Bool.eq_false_iff, ne_eq, List.isEmpty_iff]; exact k5); unfold headOk; rw [h2]; rw [s168]; simp); clear hk0 k5; go_enter Tryz.func147, Tryz.ntmps147; go_wp2; go_ret; exact ⟨by rw [hres.out]; rfl, hB0⟩
    obtain rfl : ks = [] := List.length_eq_zero_iff.1 hk0; clear hk0; by_cases hl0 : l.length = 0
    rotate_left 1
    · have k2 : 0 < l.length := by omega
      have hres := Lib.hid (show tot = false by rw [← htot'.out]; have h3 : (l.length == 0) = false := beq_eq_false_iff_ne.2 hl0; unfold headOk; rw [h3, s168, s169]; simp); clear hl0; go_enter Tryz.func147, Tryz.ntmps147; go_wp2; go_ret; exact ⟨by rw [hres.out]; rfl, hB0⟩
    have hl0h := Lib.hid hl0; obtain rfl : l = [] := List.length_eq_zero_iff.1 hl0; clear hl0; by_cases hz : ts.size = 0
    rotate_left 1
    · have e1 : ts.toList.isEmpty = false := toList_ne hz; have e2 : ¬ ts.toList = [] := fun h => by rw [h] at e1; cases e1
      have hres := Lib.hid (show tot = false by rw [← htot'.out]; rw [Bool.and_eq_false_iff]; left; rw [Bool.eq_false_iff]; intro e; rcases headOk_cases e with h | h | h | h | h | h | h | h <;> omega); clear hz; go_enter Tryz.func147, Tryz.ntmps147; go_wp2; go_ret; exact ⟨by rw [hres.out]; rfl, hB0⟩
    have e1 : ts.toList = [] := toList_nil hz; have hz0 : (ts.size : Int) = 0 := by omega
    have hz1 : decide ((4096 : Int) < (ts.size : Int)) = false := decide_eq_false (by omega); have hzh := Lib.hid hz; clear hz hz0; have hres := Lib.hid (show tot = false by rw [← htot'.out]; rw [hno0.out]; rfl); go_enter Tryz.func147, Tryz.ntmps147; go_wp2; go_ret; exact ⟨by rw [hres.out]; rfl, hB0⟩
end Go.Proofs.YtlonokcaddpniaaGreatDoor
