/- Values: slices.Equal of two lists of texts. Conditions: the lengths fit. (Texts joined.) -/
import Derived.Test.YtgnaifhmcllnlaaGreatDoorB01
set_option maxRecDepth 100000
set_option maxHeartbeats 6400000
set_option linter.unusedSimpArgs false
set_option linter.unusedVariables false
namespace Go.Proofs.YtgnaifhmcllnlaaGreatDoor
open Go.RowKit Tryz
theorem alc (ks : List ByteArray) : ae1 ks = true ↔ (∀ k ∈ ks, akp k = true) ∧ ks.Nodup := by
 induction ks with
 | nil => simp [ae1]
 | cons a tl ih =>
  unfold ae1; simp only [jj, ih, List.mem_cons, forall_eq_or_imp, List.nodup_cons]
  have e : (!(tl.any fun x => x.toList == a.toList)) = true ↔ a ∉ tl := by
   rw [Bool.not_eq_true', List.any_eq_false]; constructor
   ·intro h hm
    exact h a hm (by simp)
   ·intro h x hx he
    have : x = a := (aid x a).1 (by simpa using he); exact h (this ▸ hx)
  rw [e]; constructor
  ·rintro ⟨⟨h1, h2⟩, h3, h4⟩; exact ⟨⟨h1, h3⟩, h2, h4⟩
  ·rintro ⟨⟨h1, h3⟩, h2, h4⟩; exact ⟨⟨h1, h2⟩, h3, h4⟩
theorem acs {x : ByteArray} (h : x.size = 0) : x.toList = [] := by rw [af5 h]; decide +kernel
theorem adh {x : ByteArray} (h : ¬ x.size = 0) : x.toList.isEmpty = false := by
 rw [Bool.eq_false_iff, ne_eq, List.isEmpty_iff]
 intro e
 apply h
 have : x = ByteArray.empty := (aid x ByteArray.empty).1 (by rw [e]; decide +kernel)
 rw [this]; rfl
def al8 (s : ByteArray) : Prop := s.size ≤ maxLen
def am6 : Value → Option Int
 | .int .i64 a => some a
 | _ => none
theorem mapT_str : MapT prog 250 9 3 (fun s : ByteArray => .string s) (fun s => .string s.data.toList) al8 (fun i : Int => .int .i64 i) am6 0 where
 ht := underlying250
 K := Maps.string_keyed underlying9
 hkey := fun x hx => WideMaps.keyOf_string_mk underlying9 hx
 inj := fun x y _ _ h => by
  injection h with h; cases x; cases y; simp at h; subst h; rfl
 de := fun y => rfl
 ed := fun v y h => by
  unfold am6 at h; split at h
  ·injection h with h; subst h; rfl
  ·cases h
 hz := fun w => by kernel_rfl
theorem look_run {w : World} {b cnt : Nat} {h : ByteArray → Option Int} (M : MapG prog 9 (fun s : ByteArray => Lit.string s.data.toList) al8 am6 w b h cnt) (u : ByteArray) (hu : al8 u) :
 (Instr.lookup 250 (.map (some b)) (.string u) false).run prog w = .ok (.int .i64 ((h u).getD 0)) w := by
 obtain ⟨D, h1, h2, h3⟩ := M
 obtain ⟨v, ps, hrun, hv⟩ := h1.lookup mapT_str.K mapT_str.ht (mapT_str.hz w) (zd := .held 0) (zp := []) (by simp [avp, am6]) (mapT_str.hkey u hu)
 rw [hrun, MapG.elem mapT_str (h3 u hu) hv]
open Classical in
theorem as2 (w : World) (ka : Option Addr) (kc : Nat) (ks : List ByteArray) (hK : Slc abv 1 w (.slice ka ks.length kc) ks) (hmk : (ks.length : Int) ≤ 9223372036854775807) (hT : Tb w) :
 Calls prog 217 #[.slice ka ks.length kc] w fun e w' => e = .returned (.bool (ae1 ks)) ∧ Below w.heap.size w w' := by
 obtain ⟨tot, htot⟩ := zz (ae1 ks)
 have htot' := qq htot
 rw [htot]
 clear htot
 have hB0 := (qz w.heap.size w).alloc (qj _) (.map #[] 0)
 have hM0 : MapG prog 9 (fun s : ByteArray => Lit.string s.data.toList) al8 am6 (w.alloc (.map #[] 0)) w.heap.size (fun _ => none) 0 := MapG.made w
 have hTh := qq hT
 clear hT
 have hmm := @run_makeMap prog
 go_enter func217, ntmps217
 go_wp2
 go_loopw [9] (fun s9 wr => ∃ k : Nat, k ≤ ks.length ∧ s9 = .int .i64 k ∧ Hid (∀ j, (h : j < ks.length) → j < k → akp ks[j] = true) ∧ Hid (ks.take k).Nodup ∧ MapG prog 9 (fun s : ByteArray => Lit.string s.data.toList) al8 am6 wr w.heap.size (fun x => if x ∈ ks.take k then some 1 else none) k ∧ Below w.heap.size w wr) (fun s9 _ => ks.length - (intOf s9).toNat)
 case atStart => exact ⟨0, by omega, rfl, qq (fun j h h0 => jp h0 (by omega)), qq (by simp), by simpa using hM0, hB0⟩
 case round =>
  clear hM0 hB0; obtain ⟨k, hk, rfl, hok, hnd, hM, hB⟩ := hrel; by_cases hlt : k < ks.length
  ·have hKk := hK.pure hB
   obtain ⟨g, off, rfl⟩ := hKk.addrB hlt; have q0 := hKk.get k hlt 0 _ rfl; rw [Nat.mul_one, Nat.add_zero] at q0; have h1 : (k : Int) < (ks.length : Int) := by omega
   obtain ⟨x, hx⟩ := zz (ks[k]); rw [hx] at q0; have hxh := qq hx; clear hx
   have hbad := qq (fun (h : akp x = false ∨ x ∈ ks.take k) => show tot = false by
    rw [← htot'.out, Bool.eq_false_iff, ne_eq, alc]; rintro ⟨g1, g2⟩; rcases h with h | h
    ·have := g1 ks[k] (qy hlt)
     rw [hxh.out, h] at this; cases this
    ·obtain ⟨j, hj, he⟩ := List.getElem_of_mem h
     rw [List.getElem_take] at he; have hjk : j < k := by rw [List.length_take] at hj; omega
     have := (List.getElem_inj g2).1 (he.trans hxh.out.symm)
     omega)
   by_cases z1 : x.size = 0
   ·have e1 : x.toList = [] := acs z1
    have hres := qq (hbad.out (.inl (by unfold akp; simp [z1]))); exact aek
   have e1 : x.toList.isEmpty = false := adh z1; have e2 : ¬ x.toList = [] := fun h => by rw [h] at e1; cases e1
   by_cases z2 : 255 < x.size
   ·have hres := qq (hbad.out (.inl (by unfold akp; simp [show ¬ x.size ≤ 255 by omega])))
    have e3 : (255 : Int) < (x.size : Int) := by omega
    exact aek
   have e3 : decide ((255 : Int) < (x.size : Int)) = false := qg (by omega); have hxs : al8 x := by unfold al8 maxLen; omega
   obtain ⟨b, hb⟩ := zz (u8s x); have hpl0 := am5 x wr (by omega) (hTh.out.pure hB); rw [hb] at hpl0; have hpl := qq hpl0; have hbh := qq hb; clear hpl0 hb; cases b
   ·have hres := qq (hbad.out (.inl (by unfold akp; simp [hbh.out])))
    go_wp2_with (go_at_call 216; (with_reducible refine hpl.out.mono ?_); rintro e w1 ⟨rfl, hB1⟩); go_ret; exact ⟨by rw [hres.out]; rfl, hB.trans (hB1.mono hB.size)⟩
   by_cases z3 : x ∈ ks.take k
   ·have hres := qq (hbad.out (.inr z3))
    have hlk := qq (show (if x ∈ ks.take k then some (1 : Int) else none) = some 1 by rw [qw z3]); clear z3; go_wp2_with (first | (go_at_call 216; (with_reducible refine hpl.out.mono ?_); rintro e w1 ⟨rfl, hB1⟩; have hM1 := hM.pure hB1; have hlr := look_run hM1 x hxs; rw [hlk.out] at hlr; simp only [Option.getD_some] at hlr)); go_ret; exact ⟨by rw [hres.out]; rfl, hB.trans (hB1.mono hB.size)⟩
   ·have hlk := qq (show (if x ∈ ks.take k then some (1 : Int) else none) = none by rw [qk z3])
    have hnin := qq z3; have hkm := qq (show akp x = true by unfold akp; simp [hbh.out]; omega); clear z3; go_wp2_with (first | (go_at_call 216; (with_reducible refine hpl.out.mono ?_); rintro e w1 ⟨rfl, hB1⟩; have hM1 := hM.pure hB1; have hlr := look_run hM1 x hxs; rw [hlk.out] at hlr; simp only [Option.getD_none] at hlr) | (refine aot _ mapT_str rfl (.tmp 31) (.tmp 32) (.tmp 34) rfl rfl hM1 (by unfold maxLen; omega) x 1 rfl rfl hxs ?_; intro w2 hM2 hgr2)); have hB2 := (hB.trans (hB1.mono hB.size)).grown hgr2 (jk hB.size hB1.size) (fun j e => by cases e; exact qj _); rw [hlk.out] at hM2; have htk := jx hlt; rw [hxh.out] at htk
    have hM3 : MapG prog 9 (fun s : ByteArray => Lit.string s.data.toList) al8 am6 w2 w.heap.size (fun y => if y ∈ ks.take (k + 1) then some 1 else none) (k + 1) := by
     refine (by simpa using hM2 : MapG prog 9 (fun s : ByteArray => Lit.string s.data.toList) al8 am6 w2 w.heap.size _ (k + 1)).ext (fun y _ => ?_); rw [htk, List.mem_append, jc]; by_cases hy : y = x <;> simp [hy]
    go_roundw
    case rel => exact ⟨k + 1, by omega, by go_num, qq (fun j h h0 => by
     rcases Nat.lt_or_ge j k with h' | h'
     ·exact hok.out j h h'
     ·obtain rfl : j = k := by omega
      rw [hxh.out]; exact hkm.out), qq (by rw [htk, List.nodup_append]; exact ⟨hnd.out, by simp, fun a ha b hb => by simp at hb; subst hb; exact fun e => hnin.out (e ▸ ha)⟩), hM3, hB2⟩
    case measure => simp [intOf]; omega
  ·obtain rfl : k = ks.length := by omega
   have hres := qq (show tot = true by
    rw [← htot'.out, alc]; refine ⟨fun x hx => ?_, by have := hnd.out; rwa [js] at this⟩; obtain ⟨j, hj, rfl⟩ := List.getElem_of_mem hx
    exact hok.out j hj hj)
   exact aek
theorem aad {a w : World} {B : Nat} (h : Below B a w) : Below B a w.drew := ⟨h.os, h.tape, h.output, h.size, h.block⟩
theorem aye : ∀ (v : V) (n : Int), 0 ≤ n → -1 ≤ v.cnt n := by
 intro v
 induction v using V.ind with
 | h k n s ks l ih =>
  intro m hm; unfold V.cnt
  have hL : ∀ (l : List V), (∀ t ∈ l, ∀ n : Int, 0 ≤ n → -1 ≤ t.cnt n) → ∀ m : Int, -1 ≤ m → -1 ≤ V.cntL l m := by
   intro l
   induction l with
   | nil => intro _ m h; unfold V.cntL; exact h
   | cons x xs ihx =>
    intro h m hm; unfold V.cntL; split
    ·exact hm
    ·exact ihx (fun t ht => h t (List.mem_cons_of_mem _ ht)) _ (h x (List.mem_cons_self ..) m (by omega))
  exact hL l ih (m - 1) (by omega)
theorem am7 {l : List V} {k : Nat} (hk : k < l.length) {m : Int} (hm : 0 ≤ m) : V.cntL (l.drop k) m = V.cntL (l.drop (k + 1)) (l[k].cnt m) := by
 rw [List.drop_eq_getElem_cons hk]
 conv => lhs; unfold V.cntL
 rw [qk (by omega)]
theorem am8 {l : List V} {k : Nat} (hk : l.length ≤ k) (m : Int) : V.cntL (l.drop k) m = m := by
 rw [List.drop_eq_nil_of_le hk]; unfold V.cntL; rfl
theorem ayf {t : VT} (n : Int) : t.v.cnt n = V.cntL (t.l.map VT.v) (n - 1) := by rw [VT.v_eq]; unfold V.cnt; rfl
theorem as3 (t : VT) : ∀ (P : Nat → Prop) (w : World) (n : Int), Rd P w t → 0 ≤ n → n ≤ 1000000 →
 Calls prog 128 #[t.arg, .int .i64 n] w fun e w' => e = .returned (.int .i64 (t.v.cnt n)) ∧ Below w.heap.size w w' := by
 induction t using VT.ind with
 | h t ih =>
  intro P w n hR hn0 hn1; obtain ⟨tk, tn, ts, ka, kc, la, lc, ks, l, rfl, hK, hL, hmk, hml⟩ := hR.open; rw [VT.arg_mk, ayf]; obtain ⟨tot, htot⟩ := zz (V.cntL ((VT.mk tk tn ts (.slice ka ks.length kc) (.slice la l.length lc) ks l).l.map VT.v) (n - 1)); have htot' : Hid (V.cntL (l.map VT.v) (n - 1) = tot) := qq htot; rw [htot]; have hsub : ∀ x ∈ l, Rd P w x := hR.sub
  have ih' : ∀ x ∈ l, ∀ (P : Nat → Prop) (w : World) (n : Int), Rd P w x → 0 ≤ n → n ≤ 1000000 → Calls prog 128 #[x.arg, .int .i64 n] w fun e w' => e = .returned (.int .i64 (x.v.cnt n)) ∧ Below w.heap.size w w' := ih
  clear htot ih hR; have ihh := qq ih'; have hsubh := qq hsub; clear ih' hsub; have hB0 := (qz w.heap.size w).alloc (qj _) (.cells #[.int .u8 tk, .int .u64 tn, .string ts, .slice ka ks.length kc, .slice la l.length lc] 56); have b0 := Blk.new w [.int .u8 tk, .int .u64 tn, .string ts, .slice ka ks.length kc, .slice la l.length lc] 56; have c4 := b0.at 4 rfl; go_enter func128, ntmps128; go_wp2; go_loopw [1, 5] (fun s1 s5 wr => ∃ (k : Nat) (m : Int), k ≤ l.length ∧ s5 = .int .i64 k ∧ s1 = .int .i64 m ∧ -1 ≤ m ∧ m ≤ n ∧ V.cntL ((l.map VT.v).drop k) m = tot ∧ Blk wr w.heap.size [.int .u8 tk, .int .u64 tn, .string ts, .slice ka ks.length kc, .slice la l.length lc] ∧ Below w.heap.size w wr) (fun _ s5 _ => l.length - (intOf s5).toNat)
  case atStart => exact ⟨0, n - 1, by omega, rfl, rfl, by omega, by omega, htot'.out, b0, hB0⟩
  case round =>
   clear c4 b0 hB0; obtain ⟨k, m, hk, rfl, rfl, hm0, hm1, hc, b, hB⟩ := hrel; have hc' := qq hc; clear hc; have c4 := b.at 4 rfl; by_cases hlt : k < l.length
   ·by_cases hneg : m < 0
    ·have hres := qq (show m = tot by rw [← hc'.out, apx _ hneg])
     have h1 : (k : Int) < (l.length : Int) := by omega
     have h2 : decide (0 ≤ m) = false := qg (by omega); go_wp2; go_ret; exact ⟨by rw [hres.out]; rfl, hB⟩
    ·have hm : 0 ≤ m := by omega
     have hLk := hL.pure hB; obtain ⟨g, off, rfl⟩ := hLk.addrB hlt; have hRk := (hsubh.out l[k] (qy hlt)).pure hB; obtain ⟨xk, xn, xs, xka, xkl, xkc, xla, xll, xlc, xks, xl, hx, q0, q1, q2, q3, q4⟩ := ae4 hLk hlt hRk; have hi := ihh.out l[k] (qy hlt) P _ m hRk hm (by omega); have hge := aye l[k].v m hm; have hlt2 := ak2 l[k].v m; have hst := qq (show V.cntL ((l.map VT.v).drop (k + 1)) (l[k].v.cnt m) = tot by rw [← hc'.out, am7 (by simpa using hlt) hm, zq]); rw [hx, VT.arg_mk] at hi; obtain ⟨y, hy⟩ := zz (l[k].v.cnt m); rw [← hx, hy] at hi; rw [hy] at hge hlt2 hst; have hih := qq hi; clear hi hx hy hneg; have h1 : (k : Int) < (l.length : Int) := by omega
     go_wp2_with (go_at_call 128; (with_reducible refine hih.out.mono ?_); rintro e w1 ⟨rfl, hB1⟩; have hB2 := hB.trans (hB1.mono hB.size)); go_roundw
     case rel => exact ⟨k + 1, y, by omega, by go_num, rfl, hge, by omega, hst.out, b.pure hB1, hB2⟩
     case measure => simp [intOf]; omega
   ·obtain rfl : k = l.length := by omega
    have hres := qq (show m = tot by rw [← hc'.out, am8 (by simp)]); go_wp2; go_ret; exact ⟨by rw [hres.out]; rfl, hB⟩
theorem as4 {l : List V} {d : Nat} {k n : Int} {s : ByteArray} {ks : List ByteArray} : (V.mk k n s ks l).deep (d + 1) = l.any (V.deep d) := by conv => lhs; unfold V.deep
theorem ah0 {l : List VT} {d : Nat} {tk tn : Int} {ts : ByteArray} {kv lv : Value} {ks : List ByteArray} : (VT.mk tk tn ts kv lv ks l).v.deep (d + 1) = l.any (fun x => x.v.deep d) := by
 rw [VT.v_eq, as4]
 show (l.map VT.v).any (V.deep d) = _
 rw [List.any_map]; rfl
theorem am9 (t : VT) : ∀ (P : Nat → Prop) (w : World) (d : Nat), Rd P w t → d ≤ 1000000 → Calls prog 129 #[t.arg, .int .i64 d] w fun e w' => e = .returned (.bool (t.v.deep d)) ∧ Below w.heap.size w w' := by
 induction t using VT.ind with
 | h t ih =>
  intro P w d hR hd; have hR0 := hR; obtain ⟨tk, tn, ts, ka, kc, la, lc, ks, l, rfl, hK, hL, hmk, hml⟩ := hR.open; rw [VT.arg_mk]; have hsub : ∀ x ∈ l, Rd P w x := hR.sub
  have ih' : ∀ x ∈ l, ∀ (P : Nat → Prop) (w : World) (d : Nat), Rd P w x → d ≤ 1000000 → Calls prog 129 #[x.arg, .int .i64 d] w fun e w' => e = .returned (.bool (x.v.deep d)) ∧ Below w.heap.size w w' := ih
  have ihh := qq ih'; have hsubh := qq hsub; have hbn0 : 0 ≤ tn := hR.n0; have hbk0 : 0 ≤ tk := hR.k0; have hbk1 : tk < 256 := hR.k1; clear ih ih' hsub hR hR0; have hB0 := (qz w.heap.size w).alloc (qj _) (.cells #[.int .u8 tk, .int .u64 tn, .string ts, .slice ka ks.length kc, .slice la l.length lc] 56); have b0 := Blk.new w [.int .u8 tk, .int .u64 tn, .string ts, .slice ka ks.length kc, .slice la l.length lc] 56; have c4 := b0.at 4 rfl
  cases d with
  | zero =>
   have hz : (VT.mk tk tn ts (.slice ka ks.length kc) (.slice la l.length lc) ks l).v.deep 0 = true := by unfold V.deep; rfl
   rw [hz]; clear hz; go_enter func129, ntmps129; go_wp2; go_ret; exact ⟨rfl, hB0⟩
  | succ d =>
   rw [ah0]; obtain ⟨tot, htot⟩ := zz (l.any (fun x => x.v.deep d)); have htot' := qq htot; rw [htot]; clear htot; have hne : (((d + 1 : Nat) : Int) == 0) = false := ju.2 (by omega); obtain ⟨n, hn⟩ : ∃ n : Int, n = ((d + 1 : Nat) : Int) := ⟨_, rfl⟩
   rw [← hn] at hne ⊢; have hn1 := qq (show n - 1 = (d : Int) by omega); have hn2 : 1 ≤ n := by omega
   have hn3 : n ≤ 1000000 := by omega
   clear hn; go_enter func129, ntmps129; go_wp2; go_loopw [5] (fun s5 wr => ∃ k : Nat, k ≤ l.length ∧ s5 = .int .i64 k ∧ Hid (∀ j, (h : j < l.length) → j < k → l[j].v.deep d = false) ∧ Blk wr w.heap.size [.int .u8 tk, .int .u64 tn, .string ts, .slice ka ks.length kc, .slice la l.length lc] ∧ Below w.heap.size w wr) (fun s5 _ => l.length - (intOf s5).toNat)
   case atStart => exact ⟨0, by omega, rfl, qq (fun j h h0 => jp h0 (by omega)), b0, hB0⟩
   case round =>
    clear c4 b0 hB0; obtain ⟨k, hk, rfl, hno, b, hB⟩ := hrel; have c4 := b.at 4 rfl; by_cases hlt : k < l.length
    ·have h1 : (k : Int) < (l.length : Int) := by omega
     have hLk := hL.pure hB; obtain ⟨g, off, rfl⟩ := hLk.addrB hlt; have hRk := (hsubh.out l[k] (qy hlt)).pure hB; obtain ⟨xk, xn, xs, xka, xkl, xkc, xla, xll, xlc, xks, xl, hx, q0, q1, q2, q3, q4⟩ := ae4 hLk hlt hRk; have hi := ihh.out l[k] (qy hlt) P _ d hRk (by omega); obtain ⟨r, hr⟩ := zz (l[k].v.deep d); rw [hr, hx, VT.arg_mk] at hi; rw [← hn1.out] at hi; have hrh := qq hr; have hih := qq hi; clear hi hr hx; cases r
     ·go_wp2_with (go_at_call 129; (with_reducible refine hih.out.mono ?_); rintro e w1 ⟨rfl, hB1⟩; have hB2 := hB.trans (hB1.mono hB.size))
      go_roundw
      case rel => exact ⟨k + 1, by omega, by go_num, qq (fun j h h0 => by
       rcases Nat.lt_or_ge j k with h' | h'
       ·exact hno.out j h h'
       ·obtain rfl : j = k := by omega
        exact hrh.out), b.pure hB1, hB2⟩
      case measure => simp [intOf]; omega
     ·have hres := qq (show tot = true by rw [← htot'.out]; exact List.any_eq_true.2 ⟨_, qy hlt, hrh.out⟩)
      go_wp2_with (go_at_call 129; (with_reducible refine hih.out.mono ?_); rintro e w1 ⟨rfl, hB1⟩; have hB2 := hB.trans (hB1.mono hB.size)); go_ret; exact ⟨by rw [hres.out]; rfl, hB2⟩
    ·obtain rfl : k = l.length := by omega
     have hres := qq (show tot = false by
      rw [← htot'.out]; refine List.any_eq_false.2 (fun x hx => ?_); obtain ⟨j, hj, rfl⟩ := List.getElem_of_mem hx
      simp [hno.out j hj hj])
     go_wp2; go_ret; exact ⟨by rw [hres.out]; rfl, hB⟩
theorem as5 (t : VT) : ∀ (P : Nat → Prop) (w : World) (n : Int), Rd P w t → 0 ≤ n → n ≤ 1000000 → Calls prog 209 #[t.arg, .int .i64 n] w fun e w' => e = .returned (.int .i64 (t.v.cnt n)) ∧ Below w.heap.size w w' := by
 induction t using VT.ind with
 | h t ih =>
  intro P w n hR hn0 hn1; have hR0 := hR; obtain ⟨tk, tn, ts, ka, kc, la, lc, ks, l, rfl, hK, hL, hmk, hml⟩ := hR.open; rw [VT.arg_mk]; have hsub : ∀ x ∈ l, Rd P w x := hR.sub
  have ih' : ∀ x ∈ l, ∀ (P : Nat → Prop) (w : World) (n : Int), Rd P w x → 0 ≤ n → n ≤ 1000000 → Calls prog 209 #[x.arg, .int .i64 n] w fun e w' => e = .returned (.int .i64 (x.v.cnt n)) ∧ Below w.heap.size w w' := ih
  have ihh := qq ih'; have hsubh := qq hsub; have hbn0 : 0 ≤ tn := hR.n0; have hbk0 : 0 ≤ tk := hR.k0; have hbk1 : tk < 256 := hR.k1; clear ih ih' hsub hR hR0; have hB0 := (qz w.heap.size w).alloc (qj _) (.cells #[.int .u8 tk, .int .u64 tn, .string ts, .slice ka ks.length kc, .slice la l.length lc] 56); have b0 := Blk.new w [.int .u8 tk, .int .u64 tn, .string ts, .slice ka ks.length kc, .slice la l.length lc] 56; have c4 := b0.at 4 rfl; rw [ayf]; obtain ⟨tot, htot⟩ := zz (V.cntL ((VT.mk tk tn ts (.slice ka ks.length kc) (.slice la l.length lc) ks l).l.map VT.v) (n - 1)); have htot' : Hid (V.cntL (l.map VT.v) (n - 1) = tot) := qq htot; rw [htot]; clear htot; go_enter func209, ntmps209; go_wp2; go_loopw [1, 12] (fun s1 s5 wr => ∃ (k : Nat) (m : Int), k ≤ l.length ∧ s5 = .int .i64 k ∧ s1 = .int .i64 m ∧ -1 ≤ m ∧ m ≤ n ∧ Hid (V.cntL ((l.map VT.v).drop k) m = tot) ∧ Below w.heap.size w wr) (fun _ s5 _ => l.length - (intOf s5).toNat)
  case atStart => exact ⟨0, n - 1, by omega, rfl, rfl, by omega, by omega, htot', hB0⟩
  case round =>
   clear c4 b0 hB0; obtain ⟨k, m, hk, rfl, rfl, hm0, hm1, hc', hB⟩ := hrel; by_cases hlt : k < l.length
   ·have h1 : (k : Int) < (l.length : Int) := by omega
    have hLk := hL.pure hB; obtain ⟨g, off, rfl⟩ := hLk.addrB hlt; have hRk := (hsubh.out l[k] (qy hlt)).pure hB; obtain ⟨xk, xn, xs, xka, xkl, xkc, xla, xll, xlc, xks, xl, hx, q0, q1, q2, q3, q4⟩ := ae4 hLk hlt hRk; by_cases hneg : m < 0
    ·have hres := qq (show m = tot by rw [← hc'.out, apx _ hneg])
     clear hx; go_wp2; go_ret; exact ⟨by rw [hres.out]; rfl, (hB.alloc hB.size _)⟩
    ·have hm : 0 ≤ m := by omega
     have hBe := (qz wr.heap.size wr).alloc (qj _) (.cells #[.int .u8 xk, .int .u64 xn, .string xs, .slice xka xkl xkc, .slice xla xll xlc] 56); have be := Blk.new wr [.int .u8 xk, .int .u64 xn, .string xs, .slice xka xkl xkc, .slice xla xll xlc] 56; obtain ⟨e0, e1, e2, e3, e4⟩ := be.a5; have hi := ihh.out l[k] (qy hlt) P _ m (hRk.pure hBe) hm (by omega); have hge := aye l[k].v m hm; have hlt2 := ak2 l[k].v m; have hst := qq (show V.cntL ((l.map VT.v).drop (k + 1)) (l[k].v.cnt m) = tot by rw [← hc'.out, am7 (by simpa using hlt) hm, zq]); obtain ⟨y, hy⟩ := zz (l[k].v.cnt m); rw [hy, hx, VT.arg_mk] at hi; rw [hy] at hge hlt2 hst; have hih := qq hi; clear hi hx hy hneg; go_wp2_with (go_at_call 209; (with_reducible refine hih.out.mono ?_); rintro e w1 ⟨rfl, hB1⟩; have hB2 := hB.trans ((hBe.trans (hB1.mono hBe.size)).mono hB.size)); go_roundw
     case rel => exact ⟨k + 1, y, by omega, by go_num, rfl, hge, by omega, hst, hB2⟩
     case measure => simp [intOf]; omega
   ·obtain rfl : k = l.length := by omega
    have hres := qq (show m = tot by rw [← hc'.out, am8 (by simp)]); go_wp2; go_ret; exact ⟨by rw [hres.out]; rfl, hB⟩
theorem adu {P : Prop} (h : P := by
 by_cases hk : k < L.length
 ·rw [qp hk]; exact List.any_eq_true.2 ⟨_, qy hk, h2 hk⟩
 ·rw [qg hk]
  refine List.any_eq_false.2 (fun x hx => ?_); obtain ⟨j, hj, rfl⟩ := List.getElem_of_mem hx
  simp [h1 j hj (by omega)]) : P := h
theorem agz {L : List VT} {p : VT → Bool} (k : Nat) (h1 : ∀ j, (h : j < L.length) → j < k → p L[j] = false) (h2 : (h : k < L.length) → p L[k] = true) : L.any p = decide (k < L.length) := by
 exact adu
theorem ac8 {P : Prop} (h : P := by
 go_roundw
 case rel => exact ⟨k + 1, by omega, by go_num, qq (fun j h h0 => by
  rcases Nat.lt_or_ge j k with h' | h'
  ·exact hno.out j h h'
  ·obtain rfl : j = k := by omega
   exact hbh.out), hB2⟩
 case measure => simp [intOf]; omega) : P := h
theorem as6 (w : World) (la : Option Addr) (lc : Nat) (L : List VT) (P : Nat → Prop) (p : VT → Bool) (q : Nat) (hL : Slc ac6 5 w (.slice la L.length lc) L) (hml : (L.length : Int) ≤ 9223372036854775807) (hsubh : Hid (∀ x ∈ L, Rd P w x)) (hcall : Hid (∀ x ∈ L, ∀ u : World, Below w.heap.size w u → Calls prog 215 #[x.arg, .pointer (some ⟨q, 0, none⟩)] u fun e u' => e = .returned (.bool (p x)) ∧ Below u.heap.size u u')) :
 Calls prog 221 #[.slice la L.length lc, .func (.func 215) #[] #[.pointer (some ⟨q, 0, none⟩)]] w fun e w' => (∃ r : Int, e = .returned (.int .i64 r) ∧ decide (0 ≤ r) = L.any p) ∧ Below w.heap.size w w' := by
 go_enter func221, ntmps221
 go_wp2
 go_loopw [8] (fun s8 wr => ∃ k : Nat, k ≤ L.length ∧ s8 = .int .i64 k ∧ Hid (∀ j, (h : j < L.length) → j < k → p L[j] = false) ∧ Below w.heap.size w wr) (fun s8 _ => L.length - (intOf s8).toNat)
 case atStart => exact ⟨0, by omega, rfl, qq (fun j h h0 => jp h0 (by omega)), qz _ _⟩
 case round =>
  obtain ⟨k, hk, rfl, hno, hB⟩ := hrel; by_cases hlt : k < L.length
  ·have hLk := hL.pure hB
   obtain ⟨g, off, rfl⟩ := hLk.addrB hlt; have hRk := (hsubh.out L[k] (qy hlt)).pure hB; obtain ⟨xk, xn, xs, xka, xkl, xkc, xla, xll, xlc, xks, xl, hx, q0, q1, q2, q3, q4⟩ := ae4 hLk hlt hRk; have hi := hcall.out L[k] (qy hlt) wr hB; obtain ⟨b, hb⟩ := zz (p L[k]); rw [hb, hx, VT.arg_mk] at hi; have hih := qq hi; have hbh := qq hb; clear hi hb hx; have h1 : (k : Int) < (L.length : Int) := by omega
   cases b
   ·go_wp2_with (go_at_call 215; (with_reducible refine hih.out.mono ?_); rintro e w1 ⟨rfl, hB1⟩; have hB2 := hB.trans (hB1.mono hB.size))
    exact ac8
   ·go_wp2_with (go_at_call 215; (with_reducible refine hih.out.mono ?_); rintro e w1 ⟨rfl, hB1⟩; have hB2 := hB.trans (hB1.mono hB.size))
    go_ret; exact ⟨⟨k, rfl, by rw [agz k hno.out (fun _ => hbh.out), qp hlt]; simp⟩, hB2⟩
  ·obtain rfl : k = L.length := by omega
   go_wp2; go_ret; exact ⟨⟨-1, rfl, by rw [agz L.length hno.out (fun h => jp h hlt), qg hlt]; decide⟩, hB⟩
theorem as7 (w : World) (la : Option Addr) (lc : Nat) (L : List VT) (P : Nat → Prop) (p : VT → Bool) (q : Nat) (hL : Slc ac6 5 w (.slice la L.length lc) L) (hml : (L.length : Int) ≤ 9223372036854775807) (hsubh : Hid (∀ x ∈ L, Rd P w x)) (hcall : Hid (∀ x ∈ L, ∀ u : World, Below w.heap.size w u → Calls prog 215 #[x.arg, .pointer (some ⟨q, 0, none⟩)] u fun e u' => e = .returned (.bool (p x)) ∧ Below u.heap.size u u')) :
 Calls prog 214 #[.slice la L.length lc, .func (.func 215) #[] #[.pointer (some ⟨q, 0, none⟩)]] w fun e w' => e = .returned (.bool (L.any p)) ∧ Below w.heap.size w w' := by
 go_enter func214, ntmps214
 go_wp2_with (go_at_call 221; (with_reducible refine (as6 w la lc L P p q hL hml hsubh hcall).mono ?_); rintro e w1 ⟨⟨r, rfl, hr⟩, hB1⟩)
 go_ret
 exact ⟨by rw [← hr]; rfl, hB1⟩
theorem ah1 {L : List VT} {p : VT → Bool} (k : Nat) (h1 : ∀ j, (h : j < L.length) → j < k → p L[j] = false) (h2 : (h : k < L.length) → p L[k] = true) : L.any p = decide (k < L.length) := by
 exact adu
theorem av7 (w : World) (la : Option Addr) (lc : Nat) (L : List VT) (P : Nat → Prop) (p : VT → Bool) (hL : Slc ac6 5 w (.slice la L.length lc) L) (hml : (L.length : Int) ≤ 9223372036854775807) (hsubh : Hid (∀ x ∈ L, Rd P w x)) (hcall : Hid (∀ x ∈ L, ∀ u : World, Below w.heap.size w u → Calls prog 218 #[x.arg] u fun e u' => e = .returned (.bool (p x)) ∧ Below u.heap.size u u')) :
 Calls prog 221 #[.slice la L.length lc, .func (.func 218) #[] #[]] w fun e w' => (∃ r : Int, e = .returned (.int .i64 r) ∧ decide (0 ≤ r) = L.any p) ∧ Below w.heap.size w w' := by
 go_enter func221, ntmps221
 go_wp2
 go_loopw [8] (fun s8 wr => ∃ k : Nat, k ≤ L.length ∧ s8 = .int .i64 k ∧ Hid (∀ j, (h : j < L.length) → j < k → p L[j] = false) ∧ Below w.heap.size w wr) (fun s8 _ => L.length - (intOf s8).toNat)
 case atStart => exact ⟨0, by omega, rfl, qq (fun j h h0 => jp h0 (by omega)), qz _ _⟩
 case round =>
  obtain ⟨k, hk, rfl, hno, hB⟩ := hrel; by_cases hlt : k < L.length
  ·have hLk := hL.pure hB
   obtain ⟨g, off, rfl⟩ := hLk.addrB hlt; have hRk := (hsubh.out L[k] (qy hlt)).pure hB; obtain ⟨xk, xn, xs, xka, xkl, xkc, xla, xll, xlc, xks, xl, hx, q0, q1, q2, q3, q4⟩ := ae4 hLk hlt hRk; have hi := hcall.out L[k] (qy hlt) wr hB; obtain ⟨b, hb⟩ := zz (p L[k]); rw [hb, hx, VT.arg_mk] at hi; have hih := qq hi; have hbh := qq hb; clear hi hb hx; have h1 : (k : Int) < (L.length : Int) := by omega
   cases b
   ·go_wp2_with (go_at_call 218; (with_reducible refine hih.out.mono ?_); rintro e w1 ⟨rfl, hB1⟩; have hB2 := hB.trans (hB1.mono hB.size))
    exact ac8
   ·go_wp2_with (go_at_call 218; (with_reducible refine hih.out.mono ?_); rintro e w1 ⟨rfl, hB1⟩; have hB2 := hB.trans (hB1.mono hB.size))
    go_ret; exact ⟨⟨k, rfl, by rw [ah1 k hno.out (fun _ => hbh.out), qp hlt]; simp⟩, hB2⟩
  ·obtain rfl : k = L.length := by omega
   go_wp2; go_ret; exact ⟨⟨-1, rfl, by rw [ah1 L.length hno.out (fun h => jp h hlt), qg hlt]; decide⟩, hB⟩
theorem ap6 (w : World) (la : Option Addr) (lc : Nat) (L : List VT) (P : Nat → Prop) (p : VT → Bool) (hL : Slc ac6 5 w (.slice la L.length lc) L) (hml : (L.length : Int) ≤ 9223372036854775807) (hsubh : Hid (∀ x ∈ L, Rd P w x)) (hcall : Hid (∀ x ∈ L, ∀ u : World, Below w.heap.size w u → Calls prog 218 #[x.arg] u fun e u' => e = .returned (.bool (p x)) ∧ Below u.heap.size u u')) :
 Calls prog 214 #[.slice la L.length lc, .func (.func 218) #[] #[]] w fun e w' => e = .returned (.bool (L.any p)) ∧ Below w.heap.size w w' := by
 go_enter func214, ntmps214
 go_wp2_with (go_at_call 221; (with_reducible refine (av7 w la lc L P p hL hml hsubh hcall).mono ?_); rintro e w1 ⟨⟨r, rfl, hr⟩, hB1⟩)
 go_ret
 exact ⟨by rw [← hr]; rfl, hB1⟩
theorem as8 (t : VT) : ∀ (P : Nat → Prop) (w : World) (d : Nat), Rd P w t → d ≤ 1000000 → Calls prog 208 #[t.arg, .int .i64 d] w fun e w' => e = .returned (.bool (t.v.deep d)) ∧ Below w.heap.size w w' := by
 induction t using VT.ind with
 | h t ih =>
  intro P w d hR hd; have hR0 := hR; obtain ⟨tk, tn, ts, ka, kc, la, lc, ks, l, rfl, hK, hL, hmk, hml⟩ := hR.open; rw [VT.arg_mk]; have hsub : ∀ x ∈ l, Rd P w x := hR.sub
  have ih' : ∀ x ∈ l, ∀ (P : Nat → Prop) (w : World) (d : Nat), Rd P w x → d ≤ 1000000 → Calls prog 208 #[x.arg, .int .i64 d] w fun e w' => e = .returned (.bool (x.v.deep d)) ∧ Below w.heap.size w w' := ih
  have ihh := qq ih'; have hsubh := qq hsub; have hbn0 : 0 ≤ tn := hR.n0; have hbk0 : 0 ≤ tk := hR.k0; have hbk1 : tk < 256 := hR.k1; clear ih ih' hsub hR hR0; have hB0 := (qz w.heap.size w).alloc (qj _) (.cells #[.int .u8 tk, .int .u64 tn, .string ts, .slice ka ks.length kc, .slice la l.length lc] 56); have b0 := Blk.new w [.int .u8 tk, .int .u64 tn, .string ts, .slice ka ks.length kc, .slice la l.length lc] 56
  cases d with
  | zero =>
   have hz : (VT.mk tk tn ts (.slice ka ks.length kc) (.slice la l.length lc) ks l).v.deep 0 = true := by unfold V.deep; rfl
   rw [hz]; clear hz; go_enter func208, ntmps208; go_wp2; go_ret; exact ⟨rfl, hB0.alloc hB0.size _⟩
  | succ d =>
   rw [ah0]; obtain ⟨n, hn⟩ : ∃ n : Int, n = ((d + 1 : Nat) : Int) := ⟨_, rfl⟩
   have hne : (n == 0) = false := ju.2 (by omega); rw [← hn]; have hn1 := qq (show n - 1 = (d : Int) by omega); have hn2 : 1 ≤ n := by omega
   have hn3 : n ≤ 1000000 := by omega
   clear hn; have b1 := b0.alloc (.cells #[.int .i64 n] 3); have hB1 := hB0.alloc hB0.size (.cells #[.int .i64 n] 3); have bq : Blk ((w.alloc (.cells #[.int .u8 tk, .int .u64 tn, .string ts, .slice ka ks.length kc, .slice la l.length lc] 56)).alloc (.cells #[.int .i64 n] 3)) (w.heap.size + 1) [.int .i64 n] := by have := Blk.new (w.alloc (.cells #[.int .u8 tk, .int .u64 tn, .string ts, .slice ka ks.length kc, .slice la l.length lc] 56)) [.int .i64 n] 3; simpa using this
   have c4 := b1.at 4 rfl; have d0 := bq.at 0 rfl; have hL1 := hL.pure hB1
   have hcall : Hid (∀ x ∈ l, ∀ u : World, Below ((w.alloc (.cells #[.int .u8 tk, .int .u64 tn, .string ts, .slice ka ks.length kc, .slice la l.length lc] 56)).alloc (.cells #[.int .i64 n] 3)).heap.size ((w.alloc (.cells #[.int .u8 tk, .int .u64 tn, .string ts, .slice ka ks.length kc, .slice la l.length lc] 56)).alloc (.cells #[.int .i64 n] 3)) u → Calls prog 215 #[x.arg, .pointer (some ⟨w.heap.size + 1, 0, none⟩)] u fun e u' => e = .returned (.bool (x.v.deep d)) ∧ Below u.heap.size u u') := qq (fun x hx u hu => by
    have hRx := ((hsubh.out x hx).pure hB1).pure hu; obtain ⟨yk, yn, ys, yka, ykc, yla, ylc, yks, yl, rfl, -, -, -, -⟩ := hRx.open; have hi := ihh.out _ hx P (u.alloc (.cells #[.int .u8 yk, .int .u64 yn, .string ys, .slice yka yks.length ykc, .slice yla yl.length ylc] 56)) d (hRx.pure ((qz _ _).alloc (qj _) _)) (by omega); rw [← hn1.out] at hi; obtain ⟨r, hr⟩ := zz ((VT.mk yk yn ys (.slice yka yks.length ykc) (.slice yla yl.length ylc) yks yl).v.deep d); rw [hr, VT.arg_mk] at hi; rw [hr, VT.arg_mk]; have hih := qq hi; have bx := Blk.new u [.int .u8 yk, .int .u64 yn, .string ys, .slice yka yks.length ykc, .slice yla yl.length ylc] 56; have hBx := (qz u.heap.size u).alloc (qj _) (.cells #[.int .u8 yk, .int .u64 yn, .string ys, .slice yka yks.length ykc, .slice yla yl.length ylc] 56); have bqu := (bq.pure hu).pure hBx; have f0 := bqu.at 0 rfl; obtain ⟨e0, e1, e2, e3, e4⟩ := bx.a5; clear hi hr bq bqu bx; go_enter func215, ntmps215; go_wp2_with (go_at_call 208; (with_reducible refine hih.out.mono ?_); rintro e w1 ⟨rfl, hB9⟩); go_ret
    exact ⟨rfl, hBx.trans (hB9.mono hBx.size)⟩)
   have hsub1 := qq (fun x hx => (hsubh.out x hx).pure hB1); have hmf : ∀ (fn : Fn) (first cap : Array Value) (w : World), (Instr.makeFunc fn first cap).run prog w = .ok (.func fn first cap) w := fun _ _ _ _ => rfl
   have hcf := qq (as7 _ la lc l P (fun x => x.v.deep d) _ hL1 hml hsub1 hcall); clear hcall bq b1; obtain ⟨tot, htot⟩ := zz (l.any (fun x => x.v.deep d)); rw [htot] at hcf ⊢; clear htot; go_enter func208, ntmps208; go_wp2_with (go_at_call 214; (with_reducible refine hcf.out.mono ?_); rintro e w1 ⟨rfl, hB9⟩); go_ret; exact ⟨rfl, hB1.trans (hB9.mono hB1.size)⟩
theorem av8 (l : List VT) : V.mayL (l.map VT.v) = !(l.any (fun x => !x.v.may)) := by
 induction l with
 | nil => rfl
 | cons x xs ih =>
  rw [List.map_cons]; unfold V.mayL; rw [ih, List.any_cons, Bool.not_or, Bool.not_not]
theorem ayg {tk tn : Int} {ts : ByteArray} {kv lv : Value} {ks : List ByteArray} {l : List VT} : (VT.mk tk tn ts kv lv ks l).v.may = (aaw tk tn ts ks l.length && V.mayL (l.map VT.v)) := by
 rw [VT.v_eq]; conv => lhs; unfold V.may
 show (aaw tk tn ts ks (l.map VT.v).length && V.mayL (l.map VT.v)) = _
 rw [jf]
theorem ay3 {k : Int} (h : k ≠ 240 ∧ k ≠ 8 ∧ k ≠ 2 ∧ k ≠ 49 ∧ k ≠ 50 ∧ k ≠ 149 ∧ k ≠ 160 ∧ k ≠ 168 ∧ k ≠ 169) (n : Int) (s : ByteArray) (ks : List ByteArray) (len : Nat) : aaw k n s ks len = false := by
 rw [Bool.eq_false_iff]; intro e
 rcases adg e with h1 | h1 | h1 | h1 | h1 | h1 | h1 | h1 <;> omega
theorem ay4 (t : VT) : ∀ (P : Nat → Prop) (w : World), Rd P w t → Tb w → Calls prog 210 #[t.arg] w fun e w' => e = .returned (.bool t.v.may) ∧ Below w.heap.size w w' := by
 induction t using VT.ind with
 | h t ih =>
  intro P w  hR hT; have hR0 := hR; obtain ⟨tk, tn, ts, ka, kc, la, lc, ks, l, rfl, hK, hL, hmk, hml⟩ := hR.open; rw [VT.arg_mk]; have hsub : ∀ x ∈ l, Rd P w x := hR.sub
  have ih' : ∀ x ∈ l, ∀ (P : Nat → Prop) (w : World), Rd P w x → Tb w → Calls prog 210 #[x.arg] w fun e w' => e = .returned (.bool x.v.may) ∧ Below w.heap.size w w' := ih
  have ihh := qq ih'; have hsubh := qq hsub; have hbn0 : 0 ≤ tn := hR.n0; have hbk0 : 0 ≤ tk := hR.k0; have hbk1 : tk < 256 := hR.k1; clear ih ih' hsub hR hR0; have hB0 := (qz w.heap.size w).alloc (qj _) (.cells #[.int .u8 tk, .int .u64 tn, .string ts, .slice ka ks.length kc, .slice la l.length lc] 56); have b0 := Blk.new w [.int .u8 tk, .int .u64 tn, .string ts, .slice ka ks.length kc, .slice la l.length lc] 56; obtain ⟨c0, c1, c2, c3, c4⟩ := b0.a5; rw [ayg]; obtain ⟨tot, htot⟩ := zz (aaw tk tn ts ks l.length && V.mayL (l.map VT.v)); rw [htot]; have htot' := qq htot; clear htot; have hkl0 : (ks.length : Int) = 0 ∨ 0 < (ks.length : Int) := by omega
  have hll0 : (l.length : Int) = 0 ∨ 0 < (l.length : Int) := by omega
  have hT0 := qq (hT.pure hB0); clear hT hkl0 hll0; have hL0 := hL.pure hB0; have hK0 := hK.pure hB0; have hsub0 := qq (fun x hx => (hsubh.out x hx).pure hB0)
  have hcall : Hid (∀ x ∈ l, ∀ u : World, Below (w.alloc (.cells #[.int .u8 tk, .int .u64 tn, .string ts, .slice ka ks.length kc, .slice la l.length lc] 56)).heap.size (w.alloc (.cells #[.int .u8 tk, .int .u64 tn, .string ts, .slice ka ks.length kc, .slice la l.length lc] 56)) u → Calls prog 218 #[x.arg] u fun e u' => e = .returned (.bool (!x.v.may)) ∧ Below u.heap.size u u') := qq (fun x hx u hu => by
   have hRx := (hsub0.out x hx).pure hu; obtain ⟨yk, yn, ys, yka, ykc, yla, ylc, yks, yl, rfl, -, -, -, -⟩ := hRx.open; have hBx := (qz u.heap.size u).alloc (qj _) (.cells #[.int .u8 yk, .int .u64 yn, .string ys, .slice yka yks.length ykc, .slice yla yl.length ylc] 56); have hi := ihh.out _ hx P (u.alloc (.cells #[.int .u8 yk, .int .u64 yn, .string ys, .slice yka yks.length ykc, .slice yla yl.length ylc] 56)) (hRx.pure hBx) ((hT0.out.pure hu).pure hBx); obtain ⟨r, hr⟩ := zz ((VT.mk yk yn ys (.slice yka yks.length ykc) (.slice yla yl.length ylc) yks yl).v.may); rw [hr, VT.arg_mk] at hi; rw [hr, VT.arg_mk]; have hih := qq hi; have bx := Blk.new u [.int .u8 yk, .int .u64 yn, .string ys, .slice yka yks.length ykc, .slice yla yl.length ylc] 56; obtain ⟨e0, e1, e2, e3, e4⟩ := bx.a5; clear hi hr bx; go_enter func218, ntmps218; go_wp2_with (go_at_call 210; (with_reducible refine hih.out.mono ?_); rintro e w1 ⟨rfl, hB9⟩); go_ret
   exact ⟨rfl, hBx.trans (hB9.mono hBx.size)⟩)
  have hcf3 := qq (fun (u : World) (hu : Below (w.alloc (.cells #[.int .u8 tk, .int .u64 tn, .string ts, .slice ka ks.length kc, .slice la l.length lc] 56)).heap.size (w.alloc (.cells #[.int .u8 tk, .int .u64 tn, .string ts, .slice ka ks.length kc, .slice la l.length lc] 56)) u) => ap6 u la lc l P (fun x => !x.v.may) (hL0.pure hu) hml (qq (fun x hx => (hsub0.out x hx).pure hu)) (qq (fun x hx v hv => hcall.out x hx v (hu.trans (hv.mono hu.size))))); have bb := b0; have hcf0 := ap6 _ la lc l P (fun x => !x.v.may) hL0 hml hsub0 hcall; have hmay := av8 l; obtain ⟨q, hq⟩ := zz (l.any (fun x => !x.v.may)); rw [hq] at hcf0 hmay hcf3; have hcf := qq hcf0; have hmayh := qq hmay; clear hcall hcf0 hq hmay hL0 b0; have hes : ts.size = 0 ∨ ts.size ≠ 0 := by omega
  by_cases k1 : tk ≠ 168 ∧ 0 < ks.length
  ·obtain ⟨k1, k2⟩ := k1
   have k3 : (tk != 168) = true := bne_iff_ne.2 k1; have k5 : ks ≠ [] := fun e => by rw [e] at k2; simp at k2
   clear hes; have hres := qq (show tot = false by rw [← htot'.out]; have : (tk == 168) = false := ju.2 k1; have h2 : ks.isEmpty = false := (by rw [Bool.eq_false_iff, ne_eq, List.isEmpty_iff]; exact k5); unfold aaw; rw [this, h2]; rfl); go_enter func210, ntmps210; go_wp2; go_ret; exact ⟨by rw [hres.out]; rfl, hB0⟩
  by_cases k2 : (tk ≠ 168 ∧ tk ≠ 169) ∧ 0 < l.length
  ·obtain ⟨⟨k2, k3⟩, k4⟩ := k2
   have k5 : (tk != 168) = true := bne_iff_ne.2 k2; have k6 : (tk != 169) = true := bne_iff_ne.2 k3; have hk0 : ks.length = 0 := by omega
   obtain rfl : ks = [] := List.length_eq_zero_iff.1 hk0; clear hes k1 hk0; have hres := qq (show tot = false by rw [← htot'.out]; have h1 : (tk == 168) = false := ju.2 k2; have h2 : (tk == 169) = false := ju.2 k3; have h3 : (l.length == 0) = false := ju.2 (by omega); unfold aaw; rw [h1, h2, h3]; simp); go_enter func210, ntmps210; go_wp2; go_ret; exact ⟨by rw [hres.out]; rfl, hB0⟩
  have hks : tk ≠ 168 → ks = [] := fun h => List.length_eq_zero_iff.1 (by omega)
  have hls : tk ≠ 168 → tk ≠ 169 → l = [] := fun h h' => List.length_eq_zero_iff.1 (by omega)
  clear k1 k2; by_cases q240 : tk = 240
  ·subst q240
   obtain rfl := hks (by omega); obtain rfl := hls (by omega) (by omega); clear hks hls; by_cases hn : tn = 0
   ·subst hn
    rcases hes with hz | hz
    ·have e1 : ts.toList = [] := acs hz
     have hres := qq (show tot = true by rw [← htot'.out]; simp [aaw, hz, V.mayL]); clear hz; go_enter func210, ntmps210; go_wp2; go_ret; exact ⟨by rw [hres.out]; rfl, hB0⟩
    ·have e1 : ts.toList.isEmpty = false := adh hz
     have e2 : ¬ ts.toList = [] := fun h => by rw [h] at e1; cases e1
     have hres := qq (show tot = false by rw [← htot'.out]; simp [aaw, hz]); clear hz; go_enter func210, ntmps210; go_wp2; go_ret; exact ⟨by rw [hres.out]; rfl, hB0⟩
   ·have hn1 : (tn == 0) = false := ju.2 hn
    have hres := qq (show tot = false by rw [← htot'.out]; simp [aaw, hn]); clear hes; go_enter func210, ntmps210; go_wp2; go_ret; exact ⟨by rw [hres.out]; rfl, hB0⟩
  by_cases q8 : tk = 8
  ·subst q8
   obtain rfl := hks (by omega); obtain rfl := hls (by omega) (by omega); clear hks hls; by_cases hn : tn ≤ 1
   ·skip
    rcases hes with hz | hz
    ·have e1 : ts.toList = [] := acs hz
     have hres := qq (show tot = true by rw [← htot'.out]; simp [aaw, hz, hn, V.mayL]); clear hz; go_enter func210, ntmps210; go_wp2; go_ret; exact ⟨by rw [hres.out]; rfl, hB0⟩
    ·have e1 : ts.toList.isEmpty = false := adh hz
     have e2 : ¬ ts.toList = [] := fun h => by rw [h] at e1; cases e1
     have hres := qq (show tot = false by rw [← htot'.out]; simp [aaw, hz]); clear hz; go_enter func210, ntmps210; go_wp2; go_ret; exact ⟨by rw [hres.out]; rfl, hB0⟩
   ·have hn1 : 1 < tn := by omega
    have hres := qq (show tot = false by rw [← htot'.out]; simp [aaw, hn]); clear hes; go_enter func210, ntmps210; go_wp2; go_ret; exact ⟨by rw [hres.out]; rfl, hB0⟩
  by_cases q2 : tk = 2
  ·subst q2
   obtain rfl := hks (by omega); obtain rfl := hls (by omega) (by omega); clear hks hls; by_cases hn : tn ≤ 255
   ·skip
    rcases hes with hz | hz
    ·have e1 : ts.toList = [] := acs hz
     have hres := qq (show tot = true by rw [← htot'.out]; simp [aaw, hz, hn, V.mayL]); clear hz; go_enter func210, ntmps210; go_wp2; go_ret; exact ⟨by rw [hres.out]; rfl, hB0⟩
    ·have e1 : ts.toList.isEmpty = false := adh hz
     have e2 : ¬ ts.toList = [] := fun h => by rw [h] at e1; cases e1
     have hres := qq (show tot = false by rw [← htot'.out]; simp [aaw, hz]); clear hz; go_enter func210, ntmps210; go_wp2; go_ret; exact ⟨by rw [hres.out]; rfl, hB0⟩
   ·have hn1 : 255 < tn := by omega
    have hres := qq (show tot = false by rw [← htot'.out]; simp [aaw, hn]); clear hes; go_enter func210, ntmps210; go_wp2; go_ret; exact ⟨by rw [hres.out]; rfl, hB0⟩
  by_cases q49 : tk = 49
  ·subst q49
   obtain rfl := hks (by omega); obtain rfl := hls (by omega) (by omega); clear hks hls; rcases hes with hz | hz
   ·have e1 : ts.toList = [] := acs hz
    have hres := qq (show tot = true by rw [← htot'.out]; simp [aaw, hz, V.mayL]); clear hz; go_enter func210, ntmps210; go_wp2; go_ret; exact ⟨by rw [hres.out]; rfl, hB0⟩
   ·have e1 : ts.toList.isEmpty = false := adh hz
    have e2 : ¬ ts.toList = [] := fun h => by rw [h] at e1; cases e1
    have hres := qq (show tot = false by rw [← htot'.out]; simp [aaw, hz]); clear hz; go_enter func210, ntmps210; go_wp2; go_ret; exact ⟨by rw [hres.out]; rfl, hB0⟩
  by_cases q50 : tk = 50
  ·subst q50
   obtain rfl := hks (by omega); obtain rfl := hls (by omega) (by omega); clear hks hls; rcases hes with hz | hz
   ·have e1 : ts.toList = [] := acs hz
    have hres := qq (show tot = true by rw [← htot'.out]; simp [aaw, hz, V.mayL]); clear hz; go_enter func210, ntmps210; go_wp2; go_ret; exact ⟨by rw [hres.out]; rfl, hB0⟩
   ·have e1 : ts.toList.isEmpty = false := adh hz
    have e2 : ¬ ts.toList = [] := fun h => by rw [h] at e1; cases e1
    have hres := qq (show tot = false by rw [← htot'.out]; simp [aaw, hz]); clear hz; go_enter func210, ntmps210; go_wp2; go_ret; exact ⟨by rw [hres.out]; rfl, hB0⟩
  by_cases q149 : tk = 149
  ·subst q149
   obtain rfl := hks (by omega); obtain rfl := hls (by omega) (by omega); clear hks hls; clear hes; by_cases hn : tn = 0
   rotate_left 1
   ·have hn1 : (tn == 0) = false := ju.2 hn
    have hres := qq (show tot = false by rw [← htot'.out]; simp [aaw, hn]); go_enter func210, ntmps210; go_wp2; go_ret; exact ⟨by rw [hres.out]; rfl, hB0⟩
   subst hn; by_cases hz : ts.size ≤ 4096
   rotate_left 1
   ·have hz1 : decide ((ts.size : Int) ≤ 4096) = false := qg (by omega)
    have hres := qq (show tot = false by rw [← htot'.out]; simp [aaw, hz]); go_enter func210, ntmps210; go_wp2; go_ret; exact ⟨by rw [hres.out]; rfl, hB0⟩
   have hz1 : decide ((ts.size : Int) ≤ 4096) = true := qp (by omega); have hpl0 := am5 ts _ (by omega) hT0.out; obtain ⟨u, hu⟩ := zz (u8s ts); rw [hu] at hpl0; have hpl := qq hpl0; have hres := qq (show tot = u by rw [← htot'.out]; simp [aaw, hz, hu, V.mayL]); clear hpl0 hu; go_enter func210, ntmps210; go_wp2_with (first | (go_at_call 216; refine hpl.out.mono ?_; rintro e w1 ⟨rfl, hB1⟩)); go_ret; exact ⟨by rw [hres.out]; rfl, hB0.trans (hB1.mono hB0.size)⟩
  by_cases q160 : tk = 160
  ·subst q160
   obtain rfl := hks (by omega); obtain rfl := hls (by omega) (by omega); clear hks hls; clear hes; by_cases hn : tn = 0
   rotate_left 1
   ·have hn1 : (tn == 0) = false := ju.2 hn
    have hres := qq (show tot = false by rw [← htot'.out]; simp [aaw, hn]); go_enter func210, ntmps210; go_wp2; go_ret; exact ⟨by rw [hres.out]; rfl, hB0⟩
   subst hn; by_cases hz : ts.size ≤ 4096
   rotate_left 1
   ·have hz1 : decide ((ts.size : Int) ≤ 4096) = false := qg (by omega)
    have hres := qq (show tot = false by rw [← htot'.out]; simp [aaw, hz]); go_enter func210, ntmps210; go_wp2; go_ret; exact ⟨by rw [hres.out]; rfl, hB0⟩
   have hz1 : decide ((ts.size : Int) ≤ 4096) = true := qp (by omega); have hres := qq (show tot = true by rw [← htot'.out]; simp [aaw, hz, V.mayL]); go_enter func210, ntmps210; go_wp2; go_ret; exact ⟨by rw [hres.out]; rfl, hB0⟩
  by_cases q169 : tk = 169
  ·subst q169
   obtain rfl := hks (by omega); clear hks hls; by_cases hn : tn = 0
   rotate_left 1
   ·have hn1 : (tn == 0) = false := ju.2 hn
    have hres := qq (show tot = false by rw [← htot'.out]; simp [aaw, hn]); clear hes; go_enter func210, ntmps210; go_wp2; go_ret; exact ⟨by rw [hres.out]; rfl, hB0⟩
   subst hn; rcases hes with hz | hz
   rotate_left 1
   ·have e1 : ts.toList.isEmpty = false := adh hz
    have e2 : ¬ ts.toList = [] := fun h => by rw [h] at e1; cases e1
    have hres := qq (show tot = false by rw [← htot'.out]; simp [aaw, hz]); clear hz; go_enter func210, ntmps210; go_wp2; go_ret; exact ⟨by rw [hres.out]; rfl, hB0⟩
   have e1 : ts.toList = [] := acs hz; have hres := qq (show tot = !q by rw [← htot'.out, hmayh.out]; simp [aaw, hz]); clear hz; go_enter func210, ntmps210; go_wp2_with (first | (go_at_call 214; refine hcf.out.mono ?_; rintro e w1 ⟨rfl, hB1⟩)); go_ret; exact ⟨by rw [hres.out]; rfl, hB0.trans (hB1.mono hB0.size)⟩
  by_cases q168 : tk = 168
  ·subst q168
   clear hks hls; by_cases hkl : ks.length = l.length
   rotate_left 1
   ·have hkl1 : (ks.length != l.length) = true := bne_iff_ne.2 hkl
    have hkl2 : ((ks.length : Int) != (l.length : Int)) = true := bne_iff_ne.2 (by omega); have hres := qq (show tot = false by rw [← htot'.out]; simp [aaw, hkl]); clear hes; go_enter func210, ntmps210; go_wp2; go_ret; exact ⟨by rw [hres.out]; rfl, hB0⟩
   have hkl1 : (ks.length != l.length) = false := by rw [hkl]; simp
   have hkl2 : ((ks.length : Int) != (l.length : Int)) = false := by rw [hkl]; simp
   have hklh := qq hkl; have hky0 := as2 _ ka kc ks hK0 hmk hT0.out; obtain ⟨u, hu⟩ := zz (ae1 ks); rw [hu] at hky0; have hky := qq hky0; have huh := qq hu; clear hky0 hu hkl; cases u
   ·have hres := qq (show tot = false by rw [← htot'.out]; simp [aaw, hklh.out, huh.out])
    clear hes; go_enter func210, ntmps210; go_wp2_with (first | (go_at_call 217; refine hky.out.mono ?_; rintro e w1 ⟨rfl, hB1⟩; have hBk := hB0.trans (hB1.mono hB0.size); have bk := bb.pure hB1; have f1 := bk.at 1 rfl; have f2 := bk.at 2 rfl; have f4 := bk.at 4 rfl)); go_ret; exact ⟨by rw [hres.out]; rfl, hBk⟩
   by_cases hn : tn = 0
   rotate_left 1
   ·have hn1 : (tn == 0) = false := ju.2 hn
    have hres := qq (show tot = false by rw [← htot'.out]; simp [aaw, hklh.out, huh.out, hn]); clear hes; go_enter func210, ntmps210; go_wp2_with (first | (go_at_call 217; refine hky.out.mono ?_; rintro e w1 ⟨rfl, hB1⟩; have hBk := hB0.trans (hB1.mono hB0.size); have bk := bb.pure hB1; have f1 := bk.at 1 rfl; have f2 := bk.at 2 rfl; have f4 := bk.at 4 rfl)); go_ret; exact ⟨by rw [hres.out]; rfl, hBk⟩
   subst hn; rcases hes with hz | hz
   rotate_left 1
   ·have e1 : ts.toList.isEmpty = false := adh hz
    have e2 : ¬ ts.toList = [] := fun h => by rw [h] at e1; cases e1
    have hres := qq (show tot = false by rw [← htot'.out]; simp [aaw, hklh.out, huh.out, hz]); clear hz; go_enter func210, ntmps210; go_wp2_with (first | (go_at_call 217; refine hky.out.mono ?_; rintro e w1 ⟨rfl, hB1⟩; have hBk := hB0.trans (hB1.mono hB0.size); have bk := bb.pure hB1; have f1 := bk.at 1 rfl; have f2 := bk.at 2 rfl; have f4 := bk.at 4 rfl)); go_ret; exact ⟨by rw [hres.out]; rfl, hBk⟩
   have e1 : ts.toList = [] := acs hz; have hres := qq (show tot = !q by rw [← htot'.out, hmayh.out]; simp [aaw, hz, hklh.out, huh.out]); clear hz; go_enter func210, ntmps210; go_wp2_with (first | (go_at_call 217; refine hky.out.mono ?_; rintro e w1 ⟨rfl, hB1⟩; have hBk := hB0.trans (hB1.mono hB0.size); have bk := bb.pure hB1; have f1 := bk.at 1 rfl; have f2 := bk.at 2 rfl; have f4 := bk.at 4 rfl; have hcf2 := qq (hcf3.out w1 hB1)) | (go_at_call 214; refine hcf2.out.mono ?_; rintro e w2 ⟨rfl, hB2⟩)); go_ret; exact ⟨by rw [hres.out]; rfl, hBk.trans (hB2.mono hBk.size)⟩
  have hno := qq (show aaw tk tn ts ks l.length = false from ay3 ⟨q240, q8, q2, q49, q50, q149, q160, q168, q169⟩ _ _ _ _); obtain rfl := hks q168; obtain rfl := hls q168 q169; have r1 : (tk != 168) = true := bne_iff_ne.2 q168; have r2 : (tk != 169) = true := bne_iff_ne.2 q169; have s240 : (tk == 240) = false := ju.2 q240; have s8 : (tk == 8) = false := ju.2 q8; have s2 : (tk == 2) = false := ju.2 q2; have s49 : (tk == 49) = false := ju.2 q49; have s50 : (tk == 50) = false := ju.2 q50; have s149 : (tk == 149) = false := ju.2 q149; have s160 : (tk == 160) = false := ju.2 q160; have s168 : (tk == 168) = false := ju.2 q168; have s169 : (tk == 169) = false := ju.2 q169; clear hks hls hes q240 q8 q2 q49 q50 q149 q160 q168 q169; have hres := qq (show tot = false by rw [← htot'.out]; rw [hno.out]; rfl); go_enter func210, ntmps210; go_wp2; go_ret; exact ⟨by rw [hres.out]; rfl, hB0⟩
def B4 (w : World) (b : Nat) (v : Value) : Prop := ∃ cs, Blk w b cs ∧ cs[4]? = some v
theorem B4.mk {w : World} {b : Nat} {v : Value} {cs : List Value} (h : Blk w b cs) (h4 : cs[4]? = some v) : B4 w b v := ⟨cs, h, h4⟩
theorem B4.pure {w w' : World} {b : Nat} {v : Value} (h : B4 w b v) (hB : Below w.heap.size w w') : B4 w' b v := by
 obtain ⟨cs, h1, h2⟩ := h; exact ⟨cs, h1.pure hB, h2⟩
theorem B4.at {w : World} {b : Nat} {v : Value} (h : B4 w b v) : w.cell? ⟨b, 4, none⟩ = some v := by
 obtain ⟨cs, h1, h2⟩ := h; exact h1.at 4 h2
theorem ana {B : Nat} {w w' : World} (h : Below B w w') : Upd (fun k => B ≤ k) w w' := ⟨h.os, h.tape, h.output, h.size, fun k hk hs => h.block k (by omega)⟩
theorem Rd.bel {B C : Nat} {w w' : World} {t : VT} (h : Rd (· < B) w t) (hB : Below C w w') (hC : B ≤ C) : Rd (· < B) w' t := h.upd (ana hB) (fun b (hb : b < B) (hs : C ≤ b) => by omega)
theorem Rd.here {P : Nat → Prop} {w : World} {t : VT} (h : Rd P w t) : Rd (· < w.heap.size) w t := h.weaken (fun b hb _ => hb)
theorem ai8 (m : Bool) (ks : List ByteArray) (l : List V) (k : Nat) (hk : k < l.length) (hm : m = true → k < ks.length) :
 V.bytesL m (ks.drop k) (l.drop k) = (if m then be 1 (ks.getD k ByteArray.empty).size ++ (ks.getD k ByteArray.empty).data.toList else []) ++ (l[k].bytes ++ V.bytesL m (ks.drop (k + 1)) (l.drop (k + 1))) := by
 rw [List.drop_eq_getElem_cons hk]
 conv => lhs; unfold V.bytesL
 rw [List.tail_drop]
 cases m
 ·rfl
 ·have hk2 := hm rfl
  rw [List.drop_eq_getElem_cons hk2]; simp [List.getD, List.getElem?_eq_getElem hk2]
theorem bci {tk tn : Int} {ts : ByteArray} {kv lv : Value} {ks : List ByteArray} {l : List VT} : (VT.mk tk tn ts kv lv ks l).v.bytes = UInt8.ofNat tk.toNat ::
 (if tk = 8 ∨ tk = 2 then be 1 tn.toNat
  else if tk = 49 ∨ tk = 50 then be 8 tn.toNat
  else if tk = 149 then be 2 ts.size ++ ts.data.toList
  else if tk = 160 then be 4 ts.size ++ ts.data.toList
  else if tk = 240 then []
  else be 4 (4 + (V.bytesL (tk == 168) ks (l.map VT.v)).length) ++ (be 4 l.length ++ V.bytesL (tk == 168) ks (l.map VT.v))) := by
 rw [VT.v_eq]; conv => lhs; unfold V.bytes
 show UInt8.ofNat tk.toNat :: (if tk = 8 ∨ tk = 2 then be 1 tn.toNat else if tk = 49 ∨ tk = 50 then be 8 tn.toNat else if tk = 149 then be 2 ts.size ++ ts.data.toList else if tk = 160 then be 4 ts.size ++ ts.data.toList else if tk = 240 then [] else be 4 (4 + (V.bytesL (tk == 168) ks (l.map VT.v)).length) ++ (be 4 (l.map VT.v).length ++ V.bytesL (tk == 168) ks (l.map VT.v))) = _
 rw [jf]
theorem as9 (v : V) : 1 ≤ v.bytes.length := by cases v; unfold V.bytes; simp
theorem ai9 (m : Bool) : ∀ (l : List V) (ks : List ByteArray), l.length ≤ (V.bytesL m ks l).length
 | [], ks => by simp
 | x :: xs, ks => by
  unfold V.bytesL; have h1 := as9 x; have h2 := ai9 m xs ks.tail; rw [jz, jz, jn]; omega
theorem al9 {n : Nat} (h : Big n) : IntKind.u64.wrap (n : Int) = (n : Int) := wrap_u64 _ (by omega) (by have := h.le; omega)
theorem ay5 (t : VT) : ∀ (B : Nat) (w : World) (bv : Value) (L : List UInt8), Rd (· < B) w t → Own B 5 1 aax w bv L → B ≤ w.heap.size → t.v.may = true → Big (L.length + t.v.bytes.length + 100) → Calls prog 194 #[bv, t.arg] w fun e w' => ∃ r, e = .returned r ∧ Own B 5 1 aax w' r (L ++ t.v.bytes) ∧ Below B w w' := by
 induction t using VT.ind with
 | h t ih =>
  intro B w bv L hR hb hBs hmay hbig; have hRt := hR; obtain ⟨tk, tn, ts, ka, kc, la, lc, ks, l, rfl, hK, hL, hmk, hml⟩ := hR.open; rw [VT.arg_mk]; have hsub : ∀ x ∈ l, Rd (· < B) w x := hR.sub
  have ih' : ∀ x ∈ l, ∀ (B : Nat) (w : World) (bv : Value) (L : List UInt8), Rd (· < B) w x → Own B 5 1 aax w bv L → B ≤ w.heap.size → x.v.may = true → Big (L.length + x.v.bytes.length + 100) → Calls prog 194 #[bv, x.arg] w fun e w' => ∃ r, e = .returned r ∧ Own B 5 1 aax w' r (L ++ x.v.bytes) ∧ Below B w w' := ih
  have ihh := qq ih'; have hbn0 : 0 ≤ tn := hR.n0; have hRh := qq hRt; rw [ayg, jj] at hmay; obtain ⟨hhead, hmL⟩ := hmay; have hbytes := @bci tk tn ts (.slice ka ks.length kc) (.slice la l.length lc) ks l; obtain ⟨tot, htot⟩ := zz ((VT.mk tk tn ts (.slice ka ks.length kc) (.slice la l.length lc) ks l).v.bytes); rw [htot] at hbytes hbig ⊢; have hbh := qq hbytes; have hbigh := qq hbig; have hmLh := qq hmL; clear ih ih' hsub hR hRt hbytes htot hbig hmL; obtain ⟨ba, bn, bc, rfl⟩ := hb.shape3; have hB0 := (qz w.heap.size w).alloc (qj _) (.cells #[.int .u8 tk, .int .u64 tn, .string ts, .slice ka ks.length kc, .slice la l.length lc] 56); have b0 := Blk.new w [.int .u8 tk, .int .u64 tn, .string ts, .slice ka ks.length kc, .slice la l.length lc] 56; have hO0 := hb.alloc (.cells #[.int .u8 tk, .int .u64 tn, .string ts, .slice ka ks.length kc, .slice la l.length lc] 56); have hB1 : Below B w (w.alloc (.cells #[.int .u8 tk, .int .u64 tn, .string ts, .slice ka ks.length kc, .slice la l.length lc] 56)) := hB0.mono hBs; have hB2 := hB1.alloc (jk hBs hB1.size) (.cells #[.int .u8 tk] 5); have hbs2 := jk hBs hB2.size; have b2 := b0.alloc (.cells #[.int .u8 tk] 5); have hO2 := hO0.alloc (.cells #[.int .u8 tk] 5); have hne := qq (show ¬ (Value.slice ba bn bc).ownBlock = some w.heap.size from fun e => by have := hb.lt e; omega); have hlt2 : w.heap.size + 2 ≤ ((w.alloc (.cells #[.int .u8 tk, .int .u64 tn, .string ts, .slice ka ks.length kc, .slice la l.length lc] 56)).alloc (.cells #[.int .u8 tk] 5)).heap.size := by simp
  have hk1 : tk = 240 ∨ tk = 8 ∨ tk = 2 ∨ tk = 49 ∨ tk = 50 ∨ tk = 149 ∨ tk = 160 ∨ tk = 168 ∨ tk = 169 := by
   rcases adg hhead with h | h | h | h | h | h | h | h <;> omega
  have hkb : tk = ((UInt8.ofNat tk.toNat).toNat : Int) := by rcases hk1 with rfl | rfl | rfl | rfl | rfl | rfl | rfl | rfl | rfl <;> rfl
  have hsk := (Own.byte1 (w.alloc (.cells #[.int .u8 tk, .int .u64 tn, .string ts, .slice ka ks.length kc, .slice la l.length lc] 56)) (UInt8.ofNat tk.toNat) tk hkb (qj _)).slc aaa; rw [show (w.alloc (.cells #[.int .u8 tk, .int .u64 tn, .string ts, .slice ka ks.length kc, .slice la l.length lc] 56)).heap.size = w.heap.size + 1 by simp] at hsk; clear hkb hk1; have hhd := adg hhead; clear hhead; rcases hhd with h | h | h | h | h | h | h | h
  ·obtain ⟨rfl, -⟩ := h
   have hfin := qq (show L ++ tot = L ++ [UInt8.ofNat (240 : Int).toNat] by rw [hbh.out]; simp); go_enter func194, ntmps194; go_wp2_with (first | (at_builtin; refine aaj (base := B) rfl (.tmp 8) (.tmp 11) 189 5 rfl abx aaa aay _ L rfl hO2 _ [UInt8.ofNat (240 : Int).toNat] rfl hsk (by have := hbigh.out.le; simp; unfold maxLen; omega) (by have := hbigh.out.le; simp; omega) hbs2 ?_; intro v3 w3 hO3 hgr3 hfr3 hsh3; obtain ⟨va, vn, vc, rfl⟩ := hO3.shape3; have hu3 := Upd.grown (S := fun j => (Value.slice ba bn bc).ownBlock = some j) hgr3 (fun j e => e); have k3 := b2.upd hu3 hne.out; obtain ⟨c0, c1, c2, c3, c4⟩ := k3.a5; have hB3 := hB2.grown hgr3 hbs2 (fun j e => hb.ge e))); go_ret; exact ⟨_, rfl, by rw [hfin.out]; exact hO3, hB3⟩
  ·obtain ⟨rfl, -⟩ := h
   have hfin := qq (show L ++ tot = (L ++ [UInt8.ofNat (8 : Int).toNat]) ++ be 1 tn.toNat by rw [hbh.out]; simp); go_enter func194, ntmps194; go_wp2_with (first | (at_builtin; refine aaj (base := B) rfl (.tmp 8) (.tmp 11) 189 5 rfl abx aaa aay _ L rfl hO2 _ [UInt8.ofNat (8 : Int).toNat] rfl hsk (by have := hbigh.out.le; simp; unfold maxLen; omega) (by have := hbigh.out.le; simp; omega) hbs2 ?_; intro v3 w3 hO3 hgr3 hfr3 hsh3; obtain ⟨va, vn, vc, rfl⟩ := hO3.shape3; have hu3 := Upd.grown (S := fun j => (Value.slice ba bn bc).ownBlock = some j) hgr3 (fun j e => e); have k3 := b2.upd hu3 hne.out; obtain ⟨c0, c1, c2, c3, c4⟩ := k3.a5; have hB3 := hB2.grown hgr3 hbs2 (fun j e => hb.ge e)) | (go_at_call 163; refine (acg _ _ (L ++ [UInt8.ofNat (8 : Int).toNat]) tn 1 (hO3.slc aaa) hbn0 (by unfold Wd; omega) (by rw [jz]; exact hbigh.out.mono (by simp; omega))).mono ?_; rintro e w4 ⟨r4, rfl, hO4, hB4⟩)); go_ret; exact ⟨_, rfl, by rw [hfin.out]; exact hO4.rebase (fun i hi => jk (jk hBs hB3.size) (hO4.ge hi)), hB3.trans (hB4.mono (jk hBs hB3.size))⟩
  ·obtain ⟨rfl, -⟩ := h
   have hfin := qq (show L ++ tot = (L ++ [UInt8.ofNat (2 : Int).toNat]) ++ be 1 tn.toNat by rw [hbh.out]; simp); go_enter func194, ntmps194; go_wp2_with (first | (at_builtin; refine aaj (base := B) rfl (.tmp 8) (.tmp 11) 189 5 rfl abx aaa aay _ L rfl hO2 _ [UInt8.ofNat (2 : Int).toNat] rfl hsk (by have := hbigh.out.le; simp; unfold maxLen; omega) (by have := hbigh.out.le; simp; omega) hbs2 ?_; intro v3 w3 hO3 hgr3 hfr3 hsh3; obtain ⟨va, vn, vc, rfl⟩ := hO3.shape3; have hu3 := Upd.grown (S := fun j => (Value.slice ba bn bc).ownBlock = some j) hgr3 (fun j e => e); have k3 := b2.upd hu3 hne.out; obtain ⟨c0, c1, c2, c3, c4⟩ := k3.a5; have hB3 := hB2.grown hgr3 hbs2 (fun j e => hb.ge e)) | (go_at_call 163; refine (acg _ _ (L ++ [UInt8.ofNat (2 : Int).toNat]) tn 1 (hO3.slc aaa) hbn0 (by unfold Wd; omega) (by rw [jz]; exact hbigh.out.mono (by simp; omega))).mono ?_; rintro e w4 ⟨r4, rfl, hO4, hB4⟩)); go_ret; exact ⟨_, rfl, by rw [hfin.out]; exact hO4.rebase (fun i hi => jk (jk hBs hB3.size) (hO4.ge hi)), hB3.trans (hB4.mono (jk hBs hB3.size))⟩
  ·obtain ⟨hk, -⟩ := h
   rcases hk with rfl | rfl
   ·skip
    have hfin := qq (show L ++ tot = (L ++ [UInt8.ofNat (49 : Int).toNat]) ++ be 8 tn.toNat by rw [hbh.out]; simp); go_enter func194, ntmps194; go_wp2_with (first | (at_builtin; refine aaj (base := B) rfl (.tmp 8) (.tmp 11) 189 5 rfl abx aaa aay _ L rfl hO2 _ [UInt8.ofNat (49 : Int).toNat] rfl hsk (by have := hbigh.out.le; simp; unfold maxLen; omega) (by have := hbigh.out.le; simp; omega) hbs2 ?_; intro v3 w3 hO3 hgr3 hfr3 hsh3; obtain ⟨va, vn, vc, rfl⟩ := hO3.shape3; have hu3 := Upd.grown (S := fun j => (Value.slice ba bn bc).ownBlock = some j) hgr3 (fun j e => e); have k3 := b2.upd hu3 hne.out; obtain ⟨c0, c1, c2, c3, c4⟩ := k3.a5; have hB3 := hB2.grown hgr3 hbs2 (fun j e => hb.ge e)) | (go_at_call 163; refine (acg _ _ (L ++ [UInt8.ofNat (49 : Int).toNat]) tn 8 (hO3.slc aaa) hbn0 (by unfold Wd; omega) (by rw [jz]; exact hbigh.out.mono (by simp; omega))).mono ?_; rintro e w4 ⟨r4, rfl, hO4, hB4⟩)); go_ret; exact ⟨_, rfl, by rw [hfin.out]; exact hO4.rebase (fun i hi => jk (jk hBs hB3.size) (hO4.ge hi)), hB3.trans (hB4.mono (jk hBs hB3.size))⟩
   ·skip
    have hfin := qq (show L ++ tot = (L ++ [UInt8.ofNat (50 : Int).toNat]) ++ be 8 tn.toNat by rw [hbh.out]; simp); go_enter func194, ntmps194; go_wp2_with (first | (at_builtin; refine aaj (base := B) rfl (.tmp 8) (.tmp 11) 189 5 rfl abx aaa aay _ L rfl hO2 _ [UInt8.ofNat (50 : Int).toNat] rfl hsk (by have := hbigh.out.le; simp; unfold maxLen; omega) (by have := hbigh.out.le; simp; omega) hbs2 ?_; intro v3 w3 hO3 hgr3 hfr3 hsh3; obtain ⟨va, vn, vc, rfl⟩ := hO3.shape3; have hu3 := Upd.grown (S := fun j => (Value.slice ba bn bc).ownBlock = some j) hgr3 (fun j e => e); have k3 := b2.upd hu3 hne.out; obtain ⟨c0, c1, c2, c3, c4⟩ := k3.a5; have hB3 := hB2.grown hgr3 hbs2 (fun j e => hb.ge e)) | (go_at_call 163; refine (acg _ _ (L ++ [UInt8.ofNat (50 : Int).toNat]) tn 8 (hO3.slc aaa) hbn0 (by unfold Wd; omega) (by rw [jz]; exact hbigh.out.mono (by simp; omega))).mono ?_; rintro e w4 ⟨r4, rfl, hO4, hB4⟩)); go_ret; exact ⟨_, rfl, by rw [hfin.out]; exact hO4.rebase (fun i hi => jk (jk hBs hB3.size) (hO4.ge hi)), hB3.trans (hB4.mono (jk hBs hB3.size))⟩
  ·obtain ⟨rfl, -, hsz, -⟩ := h
   have hfin := qq (show L ++ tot = (L ++ [UInt8.ofNat (149 : Int).toNat]) ++ (be 2 ts.size ++ ts.data.toList) by rw [hbh.out]; simp); have hlen2 := qq (show tot.length = 1 + 2 + ts.size by rw [hbh.out]; simp [aao, acj]; omega); have hszh := qq hsz; clear hsz; go_enter func194, ntmps194; go_wp2_with (first | (at_builtin; refine aaj (base := B) rfl (.tmp 8) (.tmp 11) 189 5 rfl abx aaa aay _ L rfl hO2 _ [UInt8.ofNat (149 : Int).toNat] rfl hsk (by have := hbigh.out.le; simp; unfold maxLen; omega) (by have := hbigh.out.le; simp; omega) hbs2 ?_; intro v3 w3 hO3 hgr3 hfr3 hsh3; obtain ⟨va, vn, vc, rfl⟩ := hO3.shape3; have hu3 := Upd.grown (S := fun j => (Value.slice ba bn bc).ownBlock = some j) hgr3 (fun j e => e); have k3 := b2.upd hu3 hne.out; obtain ⟨c0, c1, c2, c3, c4⟩ := k3.a5; have hB3 := hB2.grown hgr3 hbs2 (fun j e => hb.ge e)) | (go_at_call 164; refine (adz _ _ (L ++ [UInt8.ofNat (149 : Int).toNat]) ts 2 (hO3.slc aaa) (by omega) (by have := hszh.out; omega) (hbigh.out.mono (by have := hlen2.out; simp; omega))).mono ?_; rintro e w4 ⟨r4, rfl, hO4, hB4⟩)); go_ret; exact ⟨_, rfl, by rw [hfin.out]; exact hO4.rebase (fun i hi => jk (jk hBs hB3.size) (hO4.ge hi)), hB3.trans (hB4.mono (jk hBs hB3.size))⟩
  ·obtain ⟨rfl, -, hsz, -⟩ := h
   have hfin := qq (show L ++ tot = (L ++ [UInt8.ofNat (160 : Int).toNat]) ++ (be 4 ts.size ++ ts.data.toList) by rw [hbh.out]; simp); have hlen2 := qq (show tot.length = 1 + 4 + ts.size by rw [hbh.out]; simp [aao, acj]; omega); have hszh := qq hsz; clear hsz; go_enter func194, ntmps194; go_wp2_with (first | (at_builtin; refine aaj (base := B) rfl (.tmp 8) (.tmp 11) 189 5 rfl abx aaa aay _ L rfl hO2 _ [UInt8.ofNat (160 : Int).toNat] rfl hsk (by have := hbigh.out.le; simp; unfold maxLen; omega) (by have := hbigh.out.le; simp; omega) hbs2 ?_; intro v3 w3 hO3 hgr3 hfr3 hsh3; obtain ⟨va, vn, vc, rfl⟩ := hO3.shape3; have hu3 := Upd.grown (S := fun j => (Value.slice ba bn bc).ownBlock = some j) hgr3 (fun j e => e); have k3 := b2.upd hu3 hne.out; obtain ⟨c0, c1, c2, c3, c4⟩ := k3.a5; have hB3 := hB2.grown hgr3 hbs2 (fun j e => hb.ge e)) | (go_at_call 164; refine (adz _ _ (L ++ [UInt8.ofNat (160 : Int).toNat]) ts 4 (hO3.slc aaa) (by omega) (by have := hszh.out; omega) (hbigh.out.mono (by have := hlen2.out; simp; omega))).mono ?_; rintro e w4 ⟨r4, rfl, hO4, hB4⟩)); go_ret; exact ⟨_, rfl, by rw [hfin.out]; exact hO4.rebase (fun i hi => jk (jk hBs hB3.size) (hO4.ge hi)), hB3.trans (hB4.mono (jk hBs hB3.size))⟩
  ·obtain ⟨rfl, -, -, hkl, hko⟩ := h
   have hkeys := qq (ahd hko); have hklh := qq hkl; clear hko hkl; obtain ⟨inn, hinn⟩ := zz (be 4 l.length ++ V.bytesL true ks (l.map VT.v)); have hfin := qq (show L ++ tot = (L ++ [UInt8.ofNat (168 : Int).toNat]) ++ be 4 inn.length ++ inn by rw [hbh.out, ← hinn]; simp [aao]); have hlen2 := qq (show tot.length = 5 + inn.length by rw [hbh.out, ← hinn]; simp [aao]; omega); have hinh := qq hinn
   have hll := qq (show l.length ≤ inn.length by
    rw [← hinn, jz]; have := ai9 true (l.map VT.v) ks
    rw [jf] at this; omega)
   have hwl : IntKind.u64.wrap (l.length : Int) = (l.length : Int) := al9 (hbigh.out.mono (by have := hll.out; have := hlen2.out; omega)); clear hinn; go_enter func194, ntmps194; go_wp2_with (first | (at_builtin; refine aaj (base := B) rfl (.tmp 8) (.tmp 11) 189 5 rfl abx aaa aay _ L rfl hO2 _ [UInt8.ofNat (168 : Int).toNat] rfl hsk (by have := hbigh.out.le; simp; unfold maxLen; omega) (by have := hbigh.out.le; simp; omega) hbs2 ?_; intro v3 w3 hO3 hgr3 hfr3 hsh3; obtain ⟨va, vn, vc, rfl⟩ := hO3.shape3; have hu3 := Upd.grown (S := fun j => (Value.slice ba bn bc).ownBlock = some j) hgr3 (fun j e => e); have k3 := b2.upd hu3 hne.out; obtain ⟨c0, c1, c2, c3, c4⟩ := k3.a5; have hB3 := hB2.grown hgr3 hbs2 (fun j e => hb.ge e)) | (go_at_call 163; refine (acg _ _ [] (l.length : Int) 4 Slc.nil0 (by omega) (by unfold Wd; omega) (by unfold Big; simp)).mono ?_; rintro e w4 ⟨r4, rfl, hO4, hB4⟩; rw [Int.toNat_natCast, List.nil_append] at hO4; obtain ⟨ra, rn, rc, rfl⟩ := hO4.shape3; have k4 := k3.pure hB4; clear c0 c1 c2 c3 c4; have c0 := k4.at 0 rfl; have c4 := k4.at 4 rfl)); have hlk3 := k3.lt; go_loopw [5, 58] (fun s5 s58 wr => ∃ (k : Nat) (acc : List UInt8), k ≤ l.length ∧ s58 = .int .i64 k ∧ Own w3.heap.size 5 1 aax wr s5 acc ∧ Hid (acc ++ V.bytesL true (ks.drop k) ((l.map VT.v).drop k) = inn) ∧ Below w3.heap.size w3 wr) (fun _ s58 _ => l.length - (intOf s58).toNat)
   case atStart => exact ⟨0, be 4 l.length, by omega, rfl, hO4, qq hinh.out, hB4⟩
   case round =>
    clear c0 c4 k4 hO4 hB4; obtain ⟨k, acc, hk, rfl, hO, hacc, hB⟩ := hrel; obtain ⟨ia, ic, rfl⟩ := aap hO; have hal := qq (show acc.length + (V.bytesL true (ks.drop k) ((l.map VT.v).drop k)).length = inn.length by rw [← hacc.out, jz]); have kr := k3.pure hB; have c0 := kr.at 0 rfl; have hBw := hB3.trans (hB.mono (jk hBs hB3.size)); have hRr := hRh.out.bel hBw (qj _); by_cases hlt : k < l.length
    ·have hLr : Slc ac6 5 wr (.slice la l.length lc) l := hRr.lv
     have h1 : (k : Int) < (l.length : Int) := by omega
     obtain ⟨g, off, rfl⟩ := hLr.addrB hlt; have hRk := hRr.sub l[k] (qy hlt); obtain ⟨xk, xn, xs, xka, xkl, xkc, xla, xll, xlc, xks, xl, hx, q0, q1, q2, q3, q4⟩ := ae4 hLr hlt hRk; have hBe := (qz wr.heap.size wr).alloc (qj _) (.cells #[.int .u8 xk, .int .u64 xn, .string xs, .slice xka xkl xkc, .slice xla xll xlc] 56); have be_ := Blk.new wr [.int .u8 xk, .int .u64 xn, .string xs, .slice xka xkl xkc, .slice xla xll xlc] 56; have hOe := hO.pure hBe; have hRe := hRk.pure hBe; have hxm := agw hmLh.out l[k].v (jv.2 ⟨_, qy hlt, rfl⟩); have hstep := qq (ai8 true ks (l.map VT.v) k (by simpa using hlt) (fun h => by rw [hklh.out]; exact hlt)); have hi := ihh.out l[k] (qy hlt) w3.heap.size; have hmapk : (l.map VT.v)[k]'(by simpa using hlt) = l[k].v := by rw [zq]
     obtain ⟨xb, hxb⟩ := zz (l[k].v.bytes); have hst2 := qq (show V.bytesL true (ks.drop k) ((l.map VT.v).drop k) = _ from by rw [hstep.out, hmapk, hxb]); rw [hxb] at hi; rw [hx] at hi hRe hxm; rw [VT.arg_mk] at hi; have hih := qq hi; have hxmh := qq hxm; have hwb := jk hBs hB3.size; clear hi hx hxm hxb hmapk hRk; have hkk : k < ks.length := by rw [hklh.out]; exact hlt
     have hKr : Slc abv 1 wr (.slice ka ks.length kc) ks := hRr.kv; obtain ⟨kg, koff, rfl⟩ := hKr.addrB hkk; have kq := (hKr.pure hBe).get k hkk 0 _ rfl; rw [Nat.mul_one, Nat.add_zero] at kq; obtain ⟨kx, hkx0⟩ := zz (ks[k]); have hkx := qq (show 1 ≤ kx.size ∧ kx.size ≤ 255 by rw [← hkx0]; exact hkeys.out _ (qy hkk)); have hgd := qq (show ks.getD k ByteArray.empty = kx by rw [← hkx0]; simp [List.getD, List.getElem?_eq_getElem hkk]); have hlen3 := qq (show (V.bytesL true (ks.drop k) ((l.map VT.v).drop k)).length = 1 + kx.size + (xb.length + (V.bytesL true (ks.drop (k + 1)) ((l.map VT.v).drop (k + 1))).length) by rw [hst2.out, hgd.out]; simp only [↓reduceIte, jz, aao, acj]); rw [hkx0] at kq; have hkk1 : (k : Int) < (ks.length : Int) := by omega
     clear hkx0; obtain ⟨e0, e1, e2, e3, e4⟩ := be_.a5; have kre := kr.pure hBe; have c0e := kre.at 0 rfl; have c3e := kre.at 3 rfl; go_wp2_with (first | (go_at_call 164; refine (adz _ _ acc kx 1 (hOe.slc aaa) (by omega) (by have := hkx.out; omega) (hbigh.out.mono (by have := hal.out; have := hlen2.out; have := hlen3.out; omega))).mono ?_; rintro e w5 ⟨r5, rfl, hO5, hB5⟩; have be5 := be_.pure hB5; clear e0 e1 e2 e3 e4; obtain ⟨e0, e1, e2, e3, e4⟩ := be5.a5; have hRe5 := (hRe.pure hB5).weaken (Q := fun b => b < w3.heap.size) (fun b _ hb => jg hb hwb); have hO5b := hO5.rebase (b' := w3.heap.size) (fun i hi => jk (jk hB.size hBe.size) (hO5.ge hi)); have hs5 := jk (jk hB.size hBe.size) hB5.size) | (go_at_call 194; refine (hih.out _ _ (acc ++ (be 1 kx.size ++ kx.data.toList)) hRe5 hO5b hs5 hxmh.out (hbigh.out.mono (by have := hal.out; have := hlen2.out; have := hlen3.out; simp [aao, acj]; omega))).mono ?_; rintro e w6 ⟨r6, rfl, hO6, hB6⟩)); go_roundw
     case rel => exact ⟨k + 1, (acc ++ (be 1 kx.size ++ kx.data.toList)) ++ xb, by omega, by go_num, hO6, qq (by rw [← hacc.out, hst2.out, hgd.out]; simp), hB.trans (((hBe.mono hB.size).trans (hB5.mono (jk hB.size hBe.size))).trans hB6)⟩
     case measure => simp [intOf]; omega
    ·obtain rfl : k = l.length := by omega
     have hfin2 := qq (show acc = inn by have e : (l.map VT.v).drop l.length = [] := List.drop_eq_nil_of_le (by simp); have := hacc.out; rw [e] at this; unfold V.bytesL at this; rw [List.append_nil] at this; exact this); have hwi : IntKind.u64.wrap (acc.length : Int) = (acc.length : Int) := al9 (hbigh.out.mono (by have := hal.out; have := hlen2.out; omega)); have hOb := hO3.pure hB; have hOi := hO; go_wp2_with (first | (go_at_call 163; refine (acg _ _ (L ++ [UInt8.ofNat (168 : Int).toNat]) (acc.length : Int) 4 (hOb.slc aaa) (by omega) (by unfold Wd; omega) (hbigh.out.mono (by have := hlen2.out; simp; omega))).mono ?_; rintro e w7 ⟨r7, rfl, hO7, hB7⟩; have hOi7 := hOi.pure hB7; rw [Int.toNat_natCast] at hO7) | (at_builtin; refine aaj (base := wr.heap.size) rfl (.tmp 84) (.tmp 85) 189 5 rfl abx aaa aay r7 _ rfl hO7 _ acc rfl (hOi7.slc aaa) (by have := hbigh.out.le; have := hlen2.out; have := hal.out; simp [aao]; unfold maxLen; omega) (by have := hbigh.out.le; have := hlen2.out; have := hal.out; simp [aao]; omega) hB7.size ?_; intro v8 w8 hO8 hgr8 hfr8 hsh8; have hB8 := hB7.grown hgr8 hB7.size (fun j e => hO7.ge e))); go_ret; have hws : B ≤ wr.heap.size := jk hBs hBw.size; exact ⟨_, rfl, by rw [hfin.out, ← hfin2.out]; exact hO8.rebase (fun i hi => jk hws (hO8.ge hi)), hBw.trans (hB8.mono hws)⟩
  ·obtain ⟨rfl, -, -, rfl⟩ := h
   obtain ⟨inn, hinn⟩ := zz (be 4 l.length ++ V.bytesL false ([] : List ByteArray) (l.map VT.v)); have hfin := qq (show L ++ tot = (L ++ [UInt8.ofNat (169 : Int).toNat]) ++ be 4 inn.length ++ inn by rw [hbh.out, ← hinn]; simp [aao]); have hlen2 := qq (show tot.length = 5 + inn.length by rw [hbh.out, ← hinn]; simp [aao]; omega); have hinh := qq hinn
   have hll := qq (show l.length ≤ inn.length by
    rw [← hinn, jz]; have := ai9 false (l.map VT.v) ([] : List ByteArray)
    rw [jf] at this; omega)
   have hwl : IntKind.u64.wrap (l.length : Int) = (l.length : Int) := al9 (hbigh.out.mono (by have := hll.out; have := hlen2.out; omega)); clear hinn; go_enter func194, ntmps194; go_wp2_with (first | (at_builtin; refine aaj (base := B) rfl (.tmp 8) (.tmp 11) 189 5 rfl abx aaa aay _ L rfl hO2 _ [UInt8.ofNat (169 : Int).toNat] rfl hsk (by have := hbigh.out.le; simp; unfold maxLen; omega) (by have := hbigh.out.le; simp; omega) hbs2 ?_; intro v3 w3 hO3 hgr3 hfr3 hsh3; obtain ⟨va, vn, vc, rfl⟩ := hO3.shape3; have hu3 := Upd.grown (S := fun j => (Value.slice ba bn bc).ownBlock = some j) hgr3 (fun j e => e); have k3 := b2.upd hu3 hne.out; obtain ⟨c0, c1, c2, c3, c4⟩ := k3.a5; have hB3 := hB2.grown hgr3 hbs2 (fun j e => hb.ge e)) | (go_at_call 163; refine (acg _ _ [] (l.length : Int) 4 Slc.nil0 (by omega) (by unfold Wd; omega) (by unfold Big; simp)).mono ?_; rintro e w4 ⟨r4, rfl, hO4, hB4⟩; rw [Int.toNat_natCast, List.nil_append] at hO4; obtain ⟨ra, rn, rc, rfl⟩ := hO4.shape3; have k4 := k3.pure hB4; clear c0 c1 c2 c3 c4; have c0 := k4.at 0 rfl; have c4 := k4.at 4 rfl)); have hlk3 := k3.lt; go_loopw [5, 58] (fun s5 s58 wr => ∃ (k : Nat) (acc : List UInt8), k ≤ l.length ∧ s58 = .int .i64 k ∧ Own w3.heap.size 5 1 aax wr s5 acc ∧ Hid (acc ++ V.bytesL false (([] : List ByteArray).drop k) ((l.map VT.v).drop k) = inn) ∧ Below w3.heap.size w3 wr) (fun _ s58 _ => l.length - (intOf s58).toNat)
   case atStart => exact ⟨0, be 4 l.length, by omega, rfl, hO4, qq hinh.out, hB4⟩
   case round =>
    clear c0 c4 k4 hO4 hB4; obtain ⟨k, acc, hk, rfl, hO, hacc, hB⟩ := hrel; obtain ⟨ia, ic, rfl⟩ := aap hO; have hal := qq (show acc.length + (V.bytesL false (([] : List ByteArray).drop k) ((l.map VT.v).drop k)).length = inn.length by rw [← hacc.out, jz]); have kr := k3.pure hB; have c0 := kr.at 0 rfl; have hBw := hB3.trans (hB.mono (jk hBs hB3.size)); have hRr := hRh.out.bel hBw (qj _); by_cases hlt : k < l.length
    ·have hLr : Slc ac6 5 wr (.slice la l.length lc) l := hRr.lv
     have h1 : (k : Int) < (l.length : Int) := by omega
     obtain ⟨g, off, rfl⟩ := hLr.addrB hlt; have hRk := hRr.sub l[k] (qy hlt); obtain ⟨xk, xn, xs, xka, xkl, xkc, xla, xll, xlc, xks, xl, hx, q0, q1, q2, q3, q4⟩ := ae4 hLr hlt hRk; have hBe := (qz wr.heap.size wr).alloc (qj _) (.cells #[.int .u8 xk, .int .u64 xn, .string xs, .slice xka xkl xkc, .slice xla xll xlc] 56); have be_ := Blk.new wr [.int .u8 xk, .int .u64 xn, .string xs, .slice xka xkl xkc, .slice xla xll xlc] 56; have hOe := hO.pure hBe; have hRe := hRk.pure hBe; have hxm := agw hmLh.out l[k].v (jv.2 ⟨_, qy hlt, rfl⟩); have hstep := qq (ai8 false ([] : List ByteArray) (l.map VT.v) k (by simpa using hlt) (fun h => jp h (by simp))); have hi := ihh.out l[k] (qy hlt) w3.heap.size; have hmapk : (l.map VT.v)[k]'(by simpa using hlt) = l[k].v := by rw [zq]
     obtain ⟨xb, hxb⟩ := zz (l[k].v.bytes); have hst2 := qq (show V.bytesL false (([] : List ByteArray).drop k) ((l.map VT.v).drop k) = _ from by rw [hstep.out, hmapk, hxb]); rw [hxb] at hi; rw [hx] at hi hRe hxm; rw [VT.arg_mk] at hi; have hih := qq hi; have hxmh := qq hxm; have hwb := jk hBs hB3.size; clear hi hx hxm hxb hmapk hRk; have hlen3 := qq (show (V.bytesL false (([] : List ByteArray).drop k) ((l.map VT.v).drop k)).length = xb.length + (V.bytesL false (([] : List ByteArray).drop (k + 1)) ((l.map VT.v).drop (k + 1))).length by rw [hst2.out]; simp); obtain ⟨e0, e1, e2, e3, e4⟩ := be_.a5; have c0e := (kr.pure hBe).at 0 rfl; go_wp2_with (first | (go_at_call 194; refine (hih.out _ _ acc (hRe.weaken (fun b _ hb => jg hb hwb)) hOe (jk hB.size hBe.size) hxmh.out (hbigh.out.mono (by have := hal.out; have := hlen2.out; have := hlen3.out; omega))).mono ?_; rintro e w6 ⟨r6, rfl, hO6, hB6⟩)); go_roundw
     case rel => exact ⟨k + 1, acc ++ xb, by omega, by go_num, hO6, qq (by rw [← hacc.out, hst2.out]; simp), hB.trans ((hBe.mono hB.size).trans hB6)⟩
     case measure => simp [intOf]; omega
    ·obtain rfl : k = l.length := by omega
     have hfin2 := qq (show acc = inn by have e : (l.map VT.v).drop l.length = [] := List.drop_eq_nil_of_le (by simp); have := hacc.out; rw [e] at this; unfold V.bytesL at this; rw [List.append_nil] at this; exact this); have hwi : IntKind.u64.wrap (acc.length : Int) = (acc.length : Int) := al9 (hbigh.out.mono (by have := hal.out; have := hlen2.out; omega)); have hOb := hO3.pure hB; have hOi := hO; go_wp2_with (first | (go_at_call 163; refine (acg _ _ (L ++ [UInt8.ofNat (169 : Int).toNat]) (acc.length : Int) 4 (hOb.slc aaa) (by omega) (by unfold Wd; omega) (hbigh.out.mono (by have := hlen2.out; simp; omega))).mono ?_; rintro e w7 ⟨r7, rfl, hO7, hB7⟩; have hOi7 := hOi.pure hB7; rw [Int.toNat_natCast] at hO7) | (at_builtin; refine aaj (base := wr.heap.size) rfl (.tmp 84) (.tmp 85) 189 5 rfl abx aaa aay r7 _ rfl hO7 _ acc rfl (hOi7.slc aaa) (by have := hbigh.out.le; have := hlen2.out; have := hal.out; simp [aao]; unfold maxLen; omega) (by have := hbigh.out.le; have := hlen2.out; have := hal.out; simp [aao]; omega) hB7.size ?_; intro v8 w8 hO8 hgr8 hfr8 hsh8; have hB8 := hB7.grown hgr8 hB7.size (fun j e => hO7.ge e))); go_ret; have hws : B ≤ wr.heap.size := jk hBs hBw.size; exact ⟨_, rfl, by rw [hfin.out, ← hfin2.out]; exact hO8.rebase (fun i hi => jk hws (hO8.ge hi)), hBw.trans (hB8.mono hws)⟩
theorem aja {P : Prop} (h : P := by
 clear hch
 go_enter func190, ntmps190
 go_wp2_with (first | (go_at_call 208; (refine (hdh.out _ hB00).mono ?_); rintro e w1 ⟨rfl, hB1⟩; have k1 := b0.pure hB1; obtain ⟨c0, c1, c2, c3, c4⟩ := k1.a5; have hB01 := hB0.trans (hB1.mono hB0.size)) | (go_at_call 209; (refine (hch2.out _ hB1).mono ?_); rintro e w2 ⟨rfl, hB2⟩; have k2 := k1.pure hB2; clear c0 c1 c2 c3 c4; obtain ⟨c0, c1, c2, c3, c4⟩ := k2.a5; have hB02 := hB1.trans (hB2.mono hB1.size); have hB03 := hB01.trans (hB2.mono hB01.size)) | (go_at_call 210; (refine (hmh.out _ hB02).mono ?_); rintro e w3 ⟨rfl, hB3⟩; have hB04 := hB03.trans (hB3.mono hB03.size)))
 go_ret
 exact ⟨by rw [hres.out]; rfl, hB04⟩) : P := h
theorem ajb (t : VT) (P : Nat → Prop) (w : World) (hR : Rd P w t) (hT : Tb w) :
 Calls prog 190 #[t.arg] w fun e w' => e = .returned (.int .i64 t.v.chk) ∧ Below w.heap.size w w' := by
 obtain ⟨tk, tn, ts, ka, kc, la, lc, ks, l, rfl, hK, hL, hmk, hml⟩ := hR.open
 have hB0 := (qz w.heap.size w).alloc (qj _) (.cells #[.int .u8 tk, .int .u64 tn, .string ts, .slice ka ks.length kc, .slice la l.length lc] 56)
 have b0 := Blk.new w [.int .u8 tk, .int .u64 tn, .string ts, .slice ka ks.length kc, .slice la l.length lc] 56
 have hR0 := hR.pure hB0
 have hT0 := qq (hT.pure hB0)
 have hd0 := fun (u : World) (hBu : Below (w.alloc (.cells #[.int .u8 tk, .int .u64 tn, .string ts, .slice ka ks.length kc, .slice la l.length lc] 56)).heap.size (w.alloc (.cells #[.int .u8 tk, .int .u64 tn, .string ts, .slice ka ks.length kc, .slice la l.length lc] 56)) u) => as8 _ P u 6 (hR0.pure hBu) (by omega)
 have hc0 := fun (u : World) (hBu : Below (w.alloc (.cells #[.int .u8 tk, .int .u64 tn, .string ts, .slice ka ks.length kc, .slice la l.length lc] 56)).heap.size (w.alloc (.cells #[.int .u8 tk, .int .u64 tn, .string ts, .slice ka ks.length kc, .slice la l.length lc] 56)) u) => as5 _ P u 200 (hR0.pure hBu) (by omega) (by omega)
 have hm0 := fun (u : World) (hBu : Below (w.alloc (.cells #[.int .u8 tk, .int .u64 tn, .string ts, .slice ka ks.length kc, .slice la l.length lc] 56)).heap.size (w.alloc (.cells #[.int .u8 tk, .int .u64 tn, .string ts, .slice ka ks.length kc, .slice la l.length lc] 56)) u) => ay4 _ P u (hR0.pure hBu) (hT0.out.pure hBu)
 have hch : (VT.mk tk tn ts (.slice ka ks.length kc) (.slice la l.length lc) ks l).v.chk = (if (VT.mk tk tn ts (.slice ka ks.length kc) (.slice la l.length lc) ks l).v.deep 6 then 51 else if (VT.mk tk tn ts (.slice ka ks.length kc) (.slice la l.length lc) ks l).v.cnt 200 < 0 then 3 else if (VT.mk tk tn ts (.slice ka ks.length kc) (.slice la l.length lc) ks l).v.may then 0 else 50) := rfl
 generalize (VT.mk tk tn ts (.slice ka ks.length kc) (.slice la l.length lc) ks l).v.deep 6 = d at hd0 hch
 generalize (VT.mk tk tn ts (.slice ka ks.length kc) (.slice la l.length lc) ks l).v.cnt 200 = c at hc0 hch
 generalize (VT.mk tk tn ts (.slice ka ks.length kc) (.slice la l.length lc) ks l).v.may = m at hm0 hch
 generalize (VT.mk tk tn ts (.slice ka ks.length kc) (.slice la l.length lc) ks l).v.chk = r at hch ⊢
 simp only [VT.arg_mk] at hd0 hc0 hm0 ⊢
 have hdh := qq hd0
 have hch2 := qq hc0
 have hmh := qq hm0
 have hB00 := qz (w.alloc (.cells #[.int .u8 tk, .int .u64 tn, .string ts, .slice ka ks.length kc, .slice la l.length lc] 56)).heap.size (w.alloc (.cells #[.int .u8 tk, .int .u64 tn, .string ts, .slice ka ks.length kc, .slice la l.length lc] 56))
 clear hd0 hc0 hm0 hR0
 cases d
 rotate_left 1
 ·skip
  have hres := qq (show r = 51 by rw [hch]; simp); clear hch; go_enter func190, ntmps190; go_wp2_with (first | (go_at_call 208; (refine (hdh.out _ hB00).mono ?_); rintro e w1 ⟨rfl, hB1⟩; have k1 := b0.pure hB1; obtain ⟨c0, c1, c2, c3, c4⟩ := k1.a5; have hB01 := hB0.trans (hB1.mono hB0.size))); go_ret; exact ⟨by rw [hres.out]; rfl, hB01⟩
 by_cases hc : c < 0
 ·skip
  have hres := qq (show r = 3 by rw [hch]; simp [hc]); clear hch; go_enter func190, ntmps190; go_wp2_with (first | (go_at_call 208; (refine (hdh.out _ hB00).mono ?_); rintro e w1 ⟨rfl, hB1⟩; have k1 := b0.pure hB1; obtain ⟨c0, c1, c2, c3, c4⟩ := k1.a5; have hB01 := hB0.trans (hB1.mono hB0.size)) | (go_at_call 209; (refine (hch2.out _ hB1).mono ?_); rintro e w2 ⟨rfl, hB2⟩; have k2 := k1.pure hB2; clear c0 c1 c2 c3 c4; obtain ⟨c0, c1, c2, c3, c4⟩ := k2.a5; have hB02 := hB1.trans (hB2.mono hB1.size); have hB03 := hB01.trans (hB2.mono hB01.size))); go_ret; exact ⟨by rw [hres.out]; rfl, hB03⟩
 have hc1 : 0 ≤ c := by omega
 cases m
 ·skip
  have hres := qq (show r = 50 by rw [hch]; simp [hc]); exact aja
 ·skip
  have hres := qq (show r = 0 by rw [hch]; simp [hc]); exact aja
theorem bct {t : VT} (h : t.v.chk = 0) : t.v.bytes.length ≤ 1000000 := by
 obtain ⟨h1, h2, h3⟩ := al3 h
 have := aiv t.v h3 200 h2
 omega
theorem av9 (t : VT) (P : Nat → Prop) (w : World) (hR : Rd P w t) (hT : Tb w) :
 Calls prog 165 #[t.arg] w fun e w' => ∃ r, e = .returned (.tuple #[r, .int .i64 t.v.chk]) ∧ Own w.heap.size 5 1 aax w' r (if t.v.chk = 0 then t.v.bytes else []) ∧ Below w.heap.size w w' := by
 have hRt := hR
 obtain ⟨tk, tn, ts, ka, kc, la, lc, ks, l, rfl, hK, hL, hmk, hml⟩ := hR.open
 have hB0 := (qz w.heap.size w).alloc (qj _) (.cells #[.int .u8 tk, .int .u64 tn, .string ts, .slice ka ks.length kc, .slice la l.length lc] 56)
 have b0 := Blk.new w [.int .u8 tk, .int .u64 tn, .string ts, .slice ka ks.length kc, .slice la l.length lc] 56
 have hc0 := ajb _ P _ (hR.pure hB0) (hT.pure hB0)
 have hchk := @al3 (VT.mk tk tn ts (.slice ka ks.length kc) (.slice la l.length lc) ks l).v
 have hcb := @bct (VT.mk tk tn ts (.slice ka ks.length kc) (.slice la l.length lc) ks l)
 have hp0 := fun (u : World) (hBu : Below w.heap.size w u) (hm : (VT.mk tk tn ts (.slice ka ks.length kc) (.slice la l.length lc) ks l).v.may = true) (hb : Big _) => ay5 (VT.mk tk tn ts (.slice ka ks.length kc) (.slice la l.length lc) ks l) w.heap.size u (.slice none 0 0) [] (hRt.here.pure hBu) Own.nil hBu.size hm hb
 simp only [VT.arg_mk] at hc0 hp0 ⊢
 obtain ⟨bs, hbs⟩ := zz ((VT.mk tk tn ts (.slice ka ks.length kc) (.slice la l.length lc) ks l).v.bytes)
 obtain ⟨r, hr⟩ := zz ((VT.mk tk tn ts (.slice ka ks.length kc) (.slice la l.length lc) ks l).v.chk)
 rw [hr] at hc0 hchk hcb ⊢
 rw [hbs] at hp0 hcb ⊢
 have hch := qq hc0
 have hph := qq hp0
 have hck := qq hchk
 have hcbh := qq hcb
 clear hc0 hp0 hchk hcb hr hbs
 by_cases hz : r = 0
 rotate_left 1
 ·have hz1 : (r != 0) = true := bne_iff_ne.2 hz
  rw [qk hz]; clear hz; go_enter func165, ntmps165; go_wp2_with (first | (go_at_call 190; (with_reducible refine hch.out.mono ?_); rintro e w1 ⟨rfl, hB1⟩; have hB2 := hB0.trans (hB1.mono hB0.size))); go_ret2; exact ⟨_, rfl, Own.nil, hB2⟩
 ·subst hz
  rw [qw rfl]; have hmay := qq (hck.out rfl).2.2; have hbg := qq (show Big (([] : List UInt8).length + bs.length + 100) by have := hcbh.out rfl; unfold Big; simp; omega); go_enter func165, ntmps165; go_wp2_with (first | (go_at_call 190; (with_reducible refine hch.out.mono ?_); rintro e w1 ⟨rfl, hB1⟩; have hB2 := hB0.trans (hB1.mono hB0.size); have k1 := b0.pure hB1; obtain ⟨c0, c1, c2, c3, c4⟩ := k1.a5) | (go_at_call 194; (with_reducible refine (hph.out _ hB2 hmay.out hbg.out).mono ?_); rintro e w3 ⟨r3, rfl, hO3, hB3⟩; rw [List.nil_append] at hO3)); go_ret2; exact ⟨_, rfl, hO3, hB2.trans hB3⟩
abbrev OnG (b : Nat) : Nat → Prop := fun k => k = b ∨ k = b + 1 ∨ k = b + 1 + 1
theorem ata (w : World) (b : Nat) :
 CallsD prog 199 #[.pointer (some ⟨b, 0, none⟩), .pointer (some ⟨b + 1, 0, none⟩), .pointer (some ⟨b + 1 + 1, 0, none⟩)] .returning w fun e u' w' => e = .returned (.tuple #[]) ∧ u' = .returning ∧ w' = w := by
 refine callsD_of_wpS func199 rfl fun c₀ cs hu => ?_
 show Code.wpS prog _ _ { tmps := #[.pointer (some ⟨b, 0, none⟩), .pointer (some ⟨b + 1, 0, none⟩), .pointer (some ⟨b + 1 + 1, 0, none⟩), undef, undef, undef, undef, undef, undef, undef, undef, undef, undef, undef, undef, undef, undef, undef], defers := [] } _ _
 apply wpS_seq
 apply wpS_region
 simp [wpOpsS, go_sem, recoverD, hu, Exit.thenS]
 refine wpS_of_wp ?_
 go_wp2
 cases c₀
 simp_all [bodyPostS, results, Tryz.results199]
def PL (w : World) (qb rb vb : Nat) (left : Int) (n : Nat) (bad : Bool) : Prop :=
 Blk w qb [.pointer (some ⟨rb, 0, none⟩), .int .i64 left] ∧ Blk w rb [.pointer (some ⟨vb, 0, none⟩)] ∧ ∃ a c, Blk w vb [.slice a n c, .bool true, .bool bad]
theorem PR.pl {w : World} {qb rb vb : Nat} {left : Int} {b : List UInt8} {bad : Bool} (h : PR w qb rb vb left b bad) : PL w qb rb vb left b.length bad := by
 obtain ⟨h1, h2, ⟨bv, h3, h4, -⟩, -⟩ := h
 obtain ⟨a, c, rfl, -⟩ := h4.len
 exact ⟨h1, h2.1, a, c, h3⟩
theorem PL.upd {S : Nat → Prop} {w w' : World} {qb rb vb n : Nat} {left : Int} {bad : Bool} (h : PL w qb rb vb left n bad) (hu : Upd S w w') (h1 : ¬ S qb) (h2 : ¬ S rb) (h3 : ¬ S vb) : PL w' qb rb vb left n bad := by
 obtain ⟨k1, k2, a, c, k3⟩ := h
 exact ⟨k1.upd hu h1, k2.upd hu h2, a, c, k3.upd hu h3⟩
theorem PL.pure {w w' : World} {qb rb vb n : Nat} {left : Int} {bad : Bool} (h : PL w qb rb vb left n bad) (hB : Below w.heap.size w w') : PL w' qb rb vb left n bad := by
 obtain ⟨k1, k2, a, c, k3⟩ := h
 exact ⟨k1.pure hB, k2.pure hB, a, c, k3.pure hB⟩
theorem PL.q {w : World} {qb rb vb n : Nat} {left : Int} {bad : Bool} (h : PL w qb rb vb left n bad) : Blk w qb [.pointer (some ⟨rb, 0, none⟩), .int .i64 left] := h.1
theorem atb (w : World) (qb rb vb n : Nat) (left : Int) (bad : Bool) (h : PL w qb rb vb left n bad) :
 Calls prog 171 #[.pointer (some ⟨rb, 0, none⟩)] w fun e w' => e = .returned (.int .i64 n) ∧ w = w' := by
 obtain ⟨h1, h2, a, c, h3⟩ := h
 have c0 := h2.at 0 rfl
 have c1 := h3.at 0 rfl
 clear h1 h2 h3
 have hv : Calls prog 198 #[.pointer (some ⟨vb, 0, none⟩)] w fun e w' => e = .returned (.int .i64 n) ∧ w = w' := by
  go_enter func198, ntmps198; go_wp2; go_ret; exact ⟨rfl, rfl⟩
 have hvh := qq hv
 clear hv
 go_enter func171, ntmps171
 go_wp2_with (go_at_call 198; (with_reducible refine (hvh.out).mono ?_); rintro e w1 ⟨rfl, rfl⟩)
 go_ret
 exact ⟨rfl, rfl⟩
theorem awa (w : World) (qb rb vb n : Nat) (left : Int) (bad : Bool) (h : PL w qb rb vb left n bad) :
 Calls prog 173 #[.pointer (some ⟨rb, 0, none⟩)] w fun e w' => e = .returned (.bool bad) ∧ w = w' := by
 obtain ⟨h1, h2, a, c, h3⟩ := h
 have c0 := h2.at 0 rfl
 have c1 := h3.at 1 rfl
 have c2 := h3.at 2 rfl
 clear h1 h2 h3
 have hv : Calls prog 202 #[.pointer (some ⟨vb, 0, none⟩)] w fun e w' => e = .returned (.bool bad) ∧ w = w' := by
  cases bad
  all_goals
   go_enter func202, ntmps202; go_wp2; go_ret; exact ⟨rfl, rfl⟩
 have hvh := qq hv
 clear hv
 go_enter func173, ntmps173
 go_wp2_with (go_at_call 202; (with_reducible refine (hvh.out).mono ?_); rintro e w1 ⟨rfl, rfl⟩)
 go_ret
 exact ⟨rfl, rfl⟩
theorem awb (w : World) (qb rb vb n : Nat) (left : Int) (h : PL w qb rb vb left n false) :
 Calls prog 201 #[.pointer (some ⟨qb, 0, none⟩), .bool true] w fun e w' => e = .returned (.tuple #[]) ∧ w = w' := by
 have c0 := h.q.at 0 rfl
 go_enter func201, ntmps201
 go_wp2_with fail
 refine (awa _ qb rb vb n left false h).mono ?_
 rintro e w1 ⟨rfl, rfl⟩
 go_wp2
 go_end0
 exact ⟨rfl, rfl⟩
def atc (w : World) : Option (V × Nat) → Ending → World → Prop
 | none, e, w' => e = .returned (.tuple #[VT.zero.arg, .int .i64 0, .int .i64 5]) ∧ Below w.heap.size w w'
 | some (x, n), e, w' => ∃ t : VT, e = .returned (.tuple #[t.arg, .int .i64 (n : Int), .int .i64 0]) ∧ t.v = x ∧ Rd (fun i => w.heap.size ≤ i) w' t ∧ Below w.heap.size w w'
theorem ay6 {w w1 w2 : World} (h : Below w.heap.size w w1) (hU : Upd (OnG w.heap.size) w1 w2) : Below w.heap.size w w2 :=
 h.trans (hU.below h.size (fun k hk => by unfold OnG at hk; omega))
theorem ag0 {S : Nat → Prop} {B : Nat} {w w1 w2 : World} (h : Below B w w1) (hU : Upd S w1 w2) (hS : ∀ k, S k → B ≤ k) (hB : B ≤ w1.heap.size) : Below B w w2 :=
 h.trans (hU.below hB hS)
inductive V.Kfit : V → Prop
 | mk {k n : Int} {s : ByteArray} {ks : List ByteArray} {l : List V} : ks.length ≤ 1000000 → (∀ t ∈ l, V.Kfit t) → V.Kfit (.mk k n s ks l)
theorem ay7 {tk tn : Int} {ts : ByteArray} {kv lv : Value} {ks : List ByteArray} {l : List VT} (h : ks.length ≤ 1000000) (hl : ∀ j, (hj : j < l.length) → V.Kfit l[j].v) : V.Kfit (VT.mk tk tn ts kv lv ks l).v := by
 rw [VT.v_eq]
 refine .mk h (fun t ht => ?_)
 obtain ⟨x, hx, rfl⟩ := jv.1 ht
 obtain ⟨j, hj, rfl⟩ := List.getElem_of_mem hx
 exact hl j hj
theorem aou (t : VT) : ∀ (P : Nat → Prop) (w : World) (n : Int), Rd P w t → 0 ≤ n → n ≤ 1000000 → Calls prog 130 #[t.arg, .int .i64 n] w fun e w' => (∃ m : Int, e = .returned (.int .i64 m) ∧ -1000000 ≤ m ∧ m ≤ n ∧ (0 ≤ m → V.Kfit t.v)) ∧ Below w.heap.size w w' := by
 induction t using VT.ind with
 | h t ih =>
  intro P w n hR hn0 hn1; obtain ⟨tk, tn, ts, ka, kc, la, lc, ks, l, rfl, hK, hL, hmk, hml⟩ := hR.open; rw [VT.arg_mk]; have hsub : ∀ x ∈ l, Rd P w x := hR.sub
  have ih' : ∀ x ∈ l, ∀ (P : Nat → Prop) (w : World) (n : Int), Rd P w x → 0 ≤ n → n ≤ 1000000 → Calls prog 130 #[x.arg, .int .i64 n] w fun e w' => (∃ m : Int, e = .returned (.int .i64 m) ∧ -1000000 ≤ m ∧ m ≤ n ∧ (0 ≤ m → V.Kfit x.v)) ∧ Below w.heap.size w w' := ih
  clear ih hR hmk; have ihh := qq ih'; have hsubh := qq hsub; clear ih' hsub; have hB0 := (qz w.heap.size w).alloc (qj _) (.cells #[.int .u8 tk, .int .u64 tn, .string ts, .slice ka ks.length kc, .slice la l.length lc] 56); have b0 := Blk.new w [.int .u8 tk, .int .u64 tn, .string ts, .slice ka ks.length kc, .slice la l.length lc] 56; have c2 := b0.at 2 rfl; have c3 := b0.at 3 rfl; have c4 := b0.at 4 rfl; by_cases hbad : n < (ts.size : Int)
  ·have h1 : decide (n < (ts.size : Int)) = true := qp hbad
   go_enter func130, ntmps130; go_wp2; go_ret; exact ⟨⟨-1, rfl, by omega, by omega, fun h => jp h (by omega)⟩, hB0⟩
  by_cases hbad2 : n < (ks.length : Int)
  ·have h1 : decide (n < (ts.size : Int)) = false := qg hbad
   have h2 : decide (n < (ks.length : Int)) = true := qp hbad2; go_enter func130, ntmps130; go_wp2; go_ret; exact ⟨⟨-1, rfl, by omega, by omega, fun h => jp h (by omega)⟩, hB0⟩
  have h1 : decide (n < (ts.size : Int)) = false := qg hbad; have h2 : decide (n < (ks.length : Int)) = false := qg hbad2; have hksz := qq (show ks.length ≤ 1000000 by omega); by_cases hM : n - ts.size - ks.length < -1000000000
  ·omega
  go_enter func130, ntmps130; go_wp2; clear h1 h2; go_loopw [1, 5] (fun s1 s5 wr => ∃ (k : Nat) (m : Int), k ≤ ks.length ∧ s5 = .int .i64 k ∧ s1 = .int .i64 m ∧ -1000000 ≤ m ∧ m ≤ n ∧ Blk wr w.heap.size [.int .u8 tk, .int .u64 tn, .string ts, .slice ka ks.length kc, .slice la l.length lc] ∧ Below w.heap.size w wr) (fun _ s5 _ => ks.length - (intOf s5).toNat)
  case atStart => exact ⟨0, _, by omega, rfl, rfl, by omega, by omega, b0, hB0⟩
  case round =>
   clear c2 c3 c4 b0 hB0; obtain ⟨k, m, hk, rfl, rfl, hm0, hm1, b, hB⟩ := hrel; have c3 := b.at 3 rfl; by_cases hlt : k < ks.length
   ·have h1 : (k : Int) < (ks.length : Int) := by omega
    have hKr := hK.pure hB; obtain ⟨kg, koff, rfl⟩ := hKr.addrB hlt; have kq := hKr.get k hlt 0 _ rfl; rw [Nat.mul_one, Nat.add_zero] at kq; obtain ⟨kx, hkx⟩ := zz (ks[k]); rw [hkx] at kq; clear hkx; by_cases hb : m < (kx.size : Int)
    ·have h2 : decide (m < (kx.size : Int)) = true := qp hb
     go_wp2; go_ret; exact ⟨⟨-1, rfl, by omega, by omega, fun h => jp h (by omega)⟩, hB⟩
    ·have h2 : decide (m < (kx.size : Int)) = false := qg hb
     go_wp2; go_roundw
     case rel => exact ⟨k + 1, m - kx.size, by omega, by go_num, by go_num, by omega, by omega, b, hB⟩
     case measure => simp [intOf]; omega
   ·obtain rfl : k = ks.length := by omega
    go_wp2; go_loopw [1, 6] (fun s1 s5 wr => ∃ (k : Nat) (m : Int), k ≤ l.length ∧ s5 = .int .i64 k ∧ s1 = .int .i64 m ∧ -1000000 ≤ m ∧ m ≤ n ∧ Blk wr w.heap.size [.int .u8 tk, .int .u64 tn, .string ts, .slice ka ks.length kc, .slice la l.length lc] ∧ Below w.heap.size w wr ∧ Hid (0 ≤ m → ∀ j, (hj : j < l.length) → j < k → V.Kfit l[j].v)) (fun _ s5 _ => l.length - (intOf s5).toNat)
    case atStart => exact ⟨0, _, by omega, rfl, rfl, hm0, hm1, b, hB, qq (fun _ j _ h => jp h (by omega))⟩
    case round =>
     clear c3 b hB hm0 hm1; obtain ⟨k2, m2, hk2, rfl, rfl, hm0, hm1, b, hB, hfit⟩ := hrel; have c4 := b.at 4 rfl; by_cases hlt2 : k2 < l.length
     ·have h1 : (k2 : Int) < (l.length : Int) := by omega
      by_cases hneg : m2 < 0
      ·have h2 : decide (0 ≤ m2) = false := qg (by omega)
       go_wp2; go_ret; exact ⟨⟨m2, rfl, hm0, hm1, fun h => jp h (by omega)⟩, hB⟩
      ·have hm : 0 ≤ m2 := by omega
       have h2 : decide (0 ≤ m2) = true := qp hm; have hLk := hL.pure hB; obtain ⟨g, off, rfl⟩ := hLk.addrB hlt2; have hRk := (hsubh.out l[k2] (qy hlt2)).pure hB; obtain ⟨xk, xn, xs, xka, xkl, xkc, xla, xll, xlc, xks, xl, hx, q0, q1, q2, q3, q4⟩ := ae4 hLk hlt2 hRk; have hi := ihh.out l[k2] (qy hlt2) P _ m2 hRk hm (by omega); rw [hx, VT.arg_mk] at hi; have hih := qq hi; have hxh := qq hx; clear hi hx hneg; go_wp2_with (go_at_call 130; (with_reducible refine hih.out.mono ?_); rintro e w1 ⟨⟨y, rfl, hy0, hy1, hyf⟩, hB1⟩; have hyfh := qq hyf; clear hyf; have hB2 := hB.trans (hB1.mono hB.size)); go_roundw
       case rel => exact ⟨k2 + 1, y, by omega, by go_num, rfl, hy0, by omega, b.pure hB1, hB2, qq (fun h0 j hj h1 => by
        rcases Nat.lt_or_ge j k2 with h' | h'
        ·exact hfit.out hm j hj h'
        ·obtain rfl : j = k2 := by omega
         rw [hxh.out]; exact hyfh.out h0)⟩
       case measure => simp [intOf]; omega
     ·obtain rfl : k2 = l.length := by omega
      go_wp2; go_ret; exact ⟨⟨m2, rfl, hm0, hm1, fun h => ay7 hksz.out (fun j hj => hfit.out h j hj hj)⟩, hB⟩
theorem aq9 (t : VT) (P : Nat → Prop) (w : World) (hR : Rd P w t) :
 Calls prog 74 #[t.arg] w fun e w' => (∃ b : Bool, e = .returned (.bool b) ∧ (b = true → 0 ≤ t.v.cnt 400 ∧ V.Kfit t.v)) ∧ Below w.heap.size w w' := by
 have hRt := hR
 obtain ⟨tk, tn, ts, ka, kc, la, lc, ks, l, rfl, hK, hL, hmk, hml⟩ := hR.open
 have hB0 := (qz w.heap.size w).alloc (qj _) (.cells #[.int .u8 tk, .int .u64 tn, .string ts, .slice ka ks.length kc, .slice la l.length lc] 56)
 have b0 := Blk.new w [.int .u8 tk, .int .u64 tn, .string ts, .slice ka ks.length kc, .slice la l.length lc] 56
 have h1 := as3 _ P _ 400 (hRt.pure hB0) (by omega) (by omega)
 have hd := fun (u : World) (hu : Below w.heap.size w u) => am9 _ P u 40 (hRt.pure hu) (by omega)
 have hs := fun (u : World) (hu : Below w.heap.size w u) => aou _ P u 20000 (hRt.pure hu) (by omega) (by omega)
 obtain ⟨c0, c1, c2, c3, c4⟩ := b0.a5
 obtain ⟨r, hr⟩ := zz ((VT.mk tk tn ts (.slice ka ks.length kc) (.slice la l.length lc) ks l).v.cnt 400)
 obtain ⟨d, hdd⟩ := zz ((VT.mk tk tn ts (.slice ka ks.length kc) (.slice la l.length lc) ks l).v.deep 40)
 rw [hr] at h1 ⊢
 rw [hdd] at hd
 simp only [VT.arg_mk] at h1 hd hs ⊢
 have hd' : ∀ u : World, Below w.heap.size w u → Calls prog 129 #[.agg #[.int .u8 tk, .int .u64 tn, .string ts, .slice ka ks.length kc, .slice la l.length lc], .int .i64 40] u fun e w' => e = .returned (.bool d) ∧ Below u.heap.size u w' := hd
 have h1 := qq h1
 have hd := qq hd'
 have hs := qq hs
 clear hr hdd hR hRt hmk hml hd'
 by_cases hz : r < 0
 ·have h2 : decide (r < 0) = true := qp hz
  go_enter func74, ntmps74; go_wp2_with (first | (go_at_call 128; (with_reducible refine h1.out.mono ?_); rintro e w1 ⟨rfl, hB1⟩; have hB2 := hB0.trans (hB1.mono hB0.size))); go_ret; exact ⟨⟨false, rfl, fun h => jp h (by simp)⟩, hB2⟩
 ·have h2 : decide (r < 0) = false := qg hz
  cases d
  ·go_enter func74, ntmps74
   go_wp2_with (first | (go_at_call 128; (with_reducible refine h1.out.mono ?_); rintro e w1 ⟨rfl, hB1⟩; have hB2 := hB0.trans (hB1.mono hB0.size); have k1 := b0.pure hB1; obtain ⟨c0, c1, c2, c3, c4⟩ := k1.a5) | (go_at_call 129; (with_reducible refine (hd.out _ hB2).mono ?_); rintro e w2 ⟨rfl, hB3⟩; have hB4 := hB2.trans (hB3.mono hB2.size); have k2 := (b0.pure hB1).below hB3 (by have := hB1.size; simp at this; omega); obtain ⟨c0, c1, c2, c3, c4⟩ := k2.a5) | (go_at_call 130; (with_reducible refine (hs.out _ hB4).mono ?_); rintro e w3 ⟨⟨m, rfl, -, -, hmf⟩, hB5⟩; have hmfh := qq hmf; clear hmf; have hB6 := hB4.trans (hB5.mono hB4.size))); go_ret; exact ⟨⟨_, rfl, fun h => ⟨by omega, hmfh.out (qt h)⟩⟩, hB6⟩
  ·go_enter func74, ntmps74
   go_wp2_with (first | (go_at_call 128; (with_reducible refine h1.out.mono ?_); rintro e w1 ⟨rfl, hB1⟩; have hB2 := hB0.trans (hB1.mono hB0.size); have k1 := b0.pure hB1; obtain ⟨c0, c1, c2, c3, c4⟩ := k1.a5) | (go_at_call 129; (with_reducible refine (hd.out _ hB2).mono ?_); rintro e w2 ⟨rfl, hB3⟩; have hB4 := hB2.trans (hB3.mono hB2.size))); go_ret; exact ⟨⟨false, rfl, fun h => jp h (by simp)⟩, hB4⟩
theorem bbf (k n : Int) (s : ByteArray) (kv lv : Value) (ks : List ByteArray) (l : List VT) (k2 n2 : Int) (s2 : ByteArray) (kv2 lv2 : Value) (ks2 : List ByteArray) (l2 : List VT) :
 (VT.mk k n s kv lv ks l).v = (VT.mk k2 n2 s2 kv2 lv2 ks2 l2).v ↔ k = k2 ∧ n = n2 ∧ s = s2 ∧ ks = ks2 ∧ l.map VT.v = l2.map VT.v := by
 rw [VT.v_eq, VT.v_eq]
 exact Iff.of_eq (V.mk.injEq ..)
theorem acd {a b : ByteArray} (h : a ≠ b) : ¬ a.toList = b.toList := by
 intro e
 apply h
 have : a.data.toList = b.data.toList := by rw [ByteArray.toList_eq, ByteArray.toList_eq] at e; exact e
 cases a; cases b; simp only [ByteArray.mk.injEq]; exact Array.toList_inj.1 this
theorem ara (w : World) (ka va : Option Addr) (kc vc : Nat) (ks ks2 : List ByteArray) (hK : Slc abv 1 w (.slice ka ks.length kc) ks) (hK2 : Slc abv 1 w (.slice va ks2.length vc) ks2) (hmk : (ks.length : Int) ≤ 9223372036854775807) :
 Calls prog 158 #[.slice ka ks.length kc, .slice va ks2.length vc] w fun e w' => e = .returned (.bool (decide (ks = ks2))) ∧ Below w.heap.size w w' := by
 by_cases e : ks2.length = ks.length
 rotate_left 1
 ·have h1 : ¬ (ks.length : Int) = (ks2.length : Int) := by omega
  have h2 : ((ks.length : Int) != (ks2.length : Int)) = true := bne_iff_ne.2 h1; have hno : decide (ks = ks2) = false := qg (fun h => e (by rw [h])); rw [hno]; clear e hno; go_enter func158, ntmps158; go_wp2; go_ret; exact ⟨rfl, qz _ _⟩
 rw [e] at hK2 ⊢
 have hkl := qq e
 clear e
 go_enter func158, ntmps158
 go_wp2
 go_loopw [13] (fun s5 wr => ∃ (k : Nat), k ≤ ks.length ∧ s5 = .int .i64 k ∧ Hid (ks.take k = ks2.take k) ∧ Below w.heap.size w wr) (fun s5 _ => ks.length - (intOf s5).toNat)
 case atStart => exact ⟨0, by omega, rfl, qq (by simp), qz _ _⟩
 case round =>
  obtain ⟨k, hk, rfl, htk, hB⟩ := hrel; by_cases hlt : k < ks.length
  ·have h1 : (k : Int) < (ks.length : Int) := by omega
   have hlt2 : k < ks2.length := by rw [hkl.out]; exact hlt
   have hKr := hK.pure hB; have hKr2 := hK2.pure hB; rw [← hkl.out] at hKr2; obtain ⟨kg, koff, rfl⟩ := hKr.addrB hlt; obtain ⟨vg, voff, rfl⟩ := hKr2.addrB hlt2; have kq := hKr.get k hlt 0 _ rfl; have vq := hKr2.get k hlt2 0 _ rfl; rw [Nat.mul_one, Nat.add_zero] at kq vq; obtain ⟨kx, hkx⟩ := zz (ks[k]); obtain ⟨vx, hvx⟩ := zz (ks2[k]); rw [hkx] at kq; rw [hvx] at vq; by_cases e : kx = vx
   rotate_left 1
   ·have h2 : ¬ kx.toList = vx.toList := acd e
    have h3 : (!kx.toList == vx.toList) = true := by rw [ju.2 h2]; rfl
    have hno := qq (show decide (ks = ks2) = false from qg (fun h => e (by rw [← hkx, ← hvx]; simp [h]))); clear e hkx hvx hKr hKr2; go_wp2; go_region; go_wp2; go_ret; exact ⟨by rw [hno.out]; rfl, aad hB⟩
   ·subst e
    have h3 : (!kx.toList == kx.toList) = false := by simp
    have hst := qq (show ks.take (k + 1) = ks2.take (k + 1) by rw [jx hlt, jx hlt2, htk.out, hkx, hvx]); clear hkx hvx hKr hKr2; go_wp2; go_region; go_wp2; go_roundw
    case rel => exact ⟨k + 1, by omega, by go_num, hst, aad hB⟩
    case measure => simp [intOf]; omega
  ·obtain rfl : k = ks.length := by omega
   have hks := qq (show decide (ks = ks2) = true from qp (by have h := htk.out; rw [js, List.take_of_length_le (by rw [hkl.out]; exact qj _)] at h; exact h)); go_wp2; go_ret; exact ⟨by rw [hks.out]; rfl, hB⟩
end Go.Proofs.YtgnaifhmcllnlaaGreatDoor
