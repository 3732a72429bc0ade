/- UTF-8: the lengths by the first byte. Conditions: none. (Texts joined.) -/
import Derived.Test.YtgnaifhmcllnlaaGreatDoorB00
import Derived.Lib.ConvBytes
import Derived.Deep.CutBlock
import Derived.Shelf.Unicode.DecodeAny
import Derived.Lib.RuneCountTail
set_option maxRecDepth 100000
set_option maxHeartbeats 4000000
set_option linter.unusedSimpArgs false
set_option linter.unusedVariables false
namespace Go.Proofs.YtgnaifhmcllnlaaGreatDoor
open Go.RowKit Tryz
theorem wrap_i64 (x : Int) (A : 0 ≤ x) (h : x < 9223372036854775808) : IntKind.i64.wrap x = x := IntWalk.i64_in _ (by omega)
theorem Upd.only2 {vb : Nat} {a b c : World} (h : Upd (acu vb) a b) (k : Upd (acu vb) b c) : Upd (acu vb) a c := h.trans k (fun _ h _ => h)
theorem aks {w n : Nat} {b r : List UInt8} (h : gN w b = some (n, r)) : n < 256 ^ w ∧ r.length ≤ b.length ∧ w ≤ b.length := by
 obtain ⟨e, A⟩ := ahy h
 have := congrArg List.length e
 rw [jz, aao] at this
 exact ⟨A, by omega, by omega⟩
theorem Wd4 {A : Nat} (h : A = 1 ∨ A = 2 ∨ A = 4) : Wd A ∧ ((A : Int) == 8) = false ∧ 256 ^ A ≤ 4294967296 := by
 refine ⟨by unfold Wd; omega, ju.2 (by omega), ?_⟩
 rcases h with rfl | rfl | rfl <;> omega
theorem ap3 (w : World) (rb vb : Nat) (b : List UInt8) (E A : Nat) (s : ByteArray) (r : List UInt8) (M : RdP w rb vb) (hs : RdS w vb b false) (O : E = 1 ∨ E = 2 ∨ E = 4) (D : gT E A b = some (s, r)) (N : Big b.length) (hM : Big A) :
 Calls prog 197 #[.pointer (some ⟨rb, 0, none⟩), .int .i64 E, .int .i64 A] w fun e w' => e = .returned (.string s) ∧ RdS w' vb r false ∧ Upd (acu vb) w w' := by
 obtain ⟨Z, ae, Y⟩ := Wd4 O
 clear O
 obtain ⟨⟨n, b1⟩, H, D⟩ := aah D
 obtain ⟨X, J, -⟩ := aks H
 have K : Big b1.length := N.mono J
 dsimp only at D
 split at D
 rotate_left 1
 ·simp at D
 rename_i hc
 obtain ⟨ad, h⟩ := hc
 simp only [jy, jm] at D
 obtain ⟨rfl, rfl⟩ := D
 have aa := qq H
 have w1 : IntKind.u64.wrap (A : Int) = (A : Int) := bau _ (by omega) (by have := hM.le; omega)
 have w2 : IntKind.u64.wrap (b1.length : Int) = (b1.length : Int) := bau _ (by omega) (by have := K.le; omega)
 have w3 : IntKind.i64.wrap (n : Int) = (n : Int) := wrap_i64 _ (by omega) (by omega)
 have d0 : decide ((A : Int) < 0) = false := qg (by omega)
 have d1 : decide (A < n) = false := qg (by omega)
 have d2 : decide (b1.length < n) = false := qg (by omega)
 have U := fun (w : World) (v : Value) (ac : Slc aax 1 w v (b1.take n)) => aif w v _ ac
 clear H X J Y
 go_enter func197, ntmps197
 go_wp2_with (first | (go_at_call 169; (with_reducible refine (ai2 _ rb vb b E n b1 M hs Z aa.out N).mono ?_); rintro e w5 ⟨rfl, F, I⟩; have G := M.upd I) | (go_at_call 173; (with_reducible refine (aei _ rb vb b1 false G F).mono ?_); rintro e w6 ⟨rfl, rfl⟩) | (go_at_call 171; (with_reducible refine (aeh _ rb vb b1 false G F).mono ?_); rintro e w6 ⟨rfl, rfl⟩) | (go_at_call 168; (with_reducible refine (al5 _ rb vb b1 n G F h K).mono ?_); rintro e w7 ⟨r7, rfl, z, W, ab⟩; have k7 := U w7 r7 (z.slc aaa)))
 go_ret
 exact ⟨rfl, W, I.only2 ab⟩
theorem asv (w : World) (rb vb : Nat) (b : List UInt8) (bad : Bool) (A D : Nat) (I : RdP w rb vb) (hs : RdS w vb b bad) (hw : A = 1 ∨ A = 2 ∨ A = 4) (Y : bad = true ∨ gT A D b = none) (Z : Big b.length) (hM : Big D) :
 Calls prog 197 #[.pointer (some ⟨rb, 0, none⟩), .int .i64 A, .int .i64 D] w fun e w' => e = .returned (.string ⟨#[]⟩) ∧ RdS w' vb [] true ∧ Upd (acu vb) w w' := by
 obtain ⟨U, ae, aa⟩ := Wd4 hw
 clear hw
 by_cases N : bad = true ∨ b.length < A
 ·clear Y
  go_enter func197, ntmps197; go_wp2_with (first | (go_at_call 169; (with_reducible refine (asu _ rb vb b bad A I hs U N).mono ?_); rintro e w5 ⟨rfl, E, G⟩; have F := I.upd G) | (go_at_call 173; (with_reducible refine (aei _ rb vb [] true F E).mono ?_); rintro e W ⟨rfl, rfl⟩) | (go_at_call 196; (with_reducible refine (ae3 _ rb vb [] true F E).mono ?_); rintro e w7 ⟨rfl, J, K⟩)); go_ret; exact ⟨rfl, J, G.only2 K⟩
 ·have hb : bad = false := by cases bad with | false => rfl | true => exact jp (Or.inl rfl) N
  subst hb; have X : A ≤ b.length := by have : ¬ b.length < A := fun ad => N (.inr ad); omega
  have H : gT A D b = none := by simpa using Y
  clear Y N; obtain ⟨n, b1, M⟩ : ∃ n b1, gN A b = some (n, b1) := ⟨_, _, by unfold gN; rw [qw X]⟩
  obtain ⟨z, O, -⟩ := aks M; have ac : Big b1.length := Z.mono O
  have h : ¬ (n ≤ D ∧ n ≤ b1.length) := fun hc => by
   unfold gT at H; rw [M, Option.bind_some] at H; dsimp only at H; rw [qw hc] at H; cases H
  clear H; have ab := qq M; have w1 : IntKind.u64.wrap (D : Int) = (D : Int) := bau _ (by omega) (by have := hM.le; omega); have w2 : IntKind.u64.wrap (b1.length : Int) = (b1.length : Int) := bau _ (by omega) (by have := ac.le; omega); have d0 : decide ((D : Int) < 0) = false := qg (by omega); by_cases h1 : D < n
  ·have d1 : decide (D < n) = true := qp h1
   clear M z O aa X h; go_enter func197, ntmps197; go_wp2_with (first | (go_at_call 169; (with_reducible refine (ai2 _ rb vb b A n b1 I hs U ab.out Z).mono ?_); rintro e w5 ⟨rfl, E, G⟩; have F := I.upd G) | (go_at_call 173; (with_reducible refine (aei _ rb vb b1 false F E).mono ?_); rintro e W ⟨rfl, rfl⟩) | (go_at_call 196; (with_reducible refine (ae3 _ rb vb b1 false F E).mono ?_); rintro e w7 ⟨rfl, J, K⟩)); go_ret; exact ⟨rfl, J, G.only2 K⟩
  ·have d1 : decide (D < n) = false := qg h1
   have d2 : decide (b1.length < n) = true := qp (by omega); clear M z O aa X h; go_enter func197, ntmps197; go_wp2_with (first | (go_at_call 169; (with_reducible refine (ai2 _ rb vb b A n b1 I hs U ab.out Z).mono ?_); rintro e w5 ⟨rfl, E, G⟩; have F := I.upd G) | (go_at_call 173; (with_reducible refine (aei _ rb vb b1 false F E).mono ?_); rintro e W ⟨rfl, rfl⟩) | (go_at_call 171; (with_reducible refine (aeh _ rb vb b1 false F E).mono ?_); rintro e W ⟨rfl, rfl⟩) | (go_at_call 196; (with_reducible refine (ae3 _ rb vb b1 false F E).mono ?_); rintro e w7 ⟨rfl, J, K⟩)); go_ret; exact ⟨rfl, J, G.only2 K⟩
theorem am2 (w : World) (v : Value) (L : List UInt8) (h : Slc aax 1 w v L) (J : Big L.length) :
 Calls prog 167 #[v] w fun e w' => ∃ rb vb, e = .returned (.pointer (some ⟨rb, 0, none⟩)) ∧ RdP w' rb vb ∧ RdS w' vb L false ∧ w.heap.size ≤ vb ∧ w.heap.size ≤ rb ∧ Below w.heap.size w w' := by
 go_enter func167, ntmps167
 go_wp2_with (go_at_call 195; (with_reducible refine (ak7 _ v L h J).mono ?_); rintro e G ⟨K, rfl, D, A⟩; obtain ⟨F, E, rfl⟩ := aap D)
 go_ret
 have k1 := Blk.new G [.slice F L.length E, .bool true, .bool false] 228
 have H := A.alloc A.size (.cells #[.slice F L.length E, .bool true, .bool false] 228)
 refine ⟨_, _, rfl, ⟨by have := Blk.new (G.alloc (.cells #[.slice F L.length E, .bool true, .bool false] 228)) [.pointer (some ⟨G.heap.size, 0, none⟩)] 230; simpa using this, ?_⟩, ⟨_, k1.alloc _, ((D.alloc _).alloc _).slc aaa, fun k I => D.lt I⟩, A.size, ?_, H.alloc H.size _⟩
 ·simp
 ·have := A.size; simp; omega
theorem ba6 (w : World) (n : Int) (A : Nat) (hn : 0 ≤ n) (Y : Hid (n < 18446744073709551616)) (O : Wd A) :
 Calls prog 207 #[.int .u64 n, .int .i64 A] w fun e w' => ∃ r, e = .returned r ∧ Own w.heap.size 5 1 aax w' r (be A n.toNat) ∧ Below w.heap.size w w' := by
 have aa : A ≤ 8 := by unfold Wd at O; omega
 clear O
 go_enter func207, ntmps207
 go_wp2
 go_loopw [0, 5, 6] (fun s0 s5 G wr => ∃ k : Nat, ∃ q : Int, k ≤ A ∧ G = .int .i64 k ∧ 0 ≤ q ∧ q = ((n.toNat / 256 ^ k : Nat) : Int) ∧ s0 = .int .u64 q ∧ Own w.heap.size 5 1 aax wr s5 (be k n.toNat) ∧ Below w.heap.size w wr) (fun _ _ G _ => A - (intOf G).toNat)
 case atStart => exact ⟨0, n, by omega, rfl, hn, by simp; omega, rfl, Own.nil, qz _ _⟩
 case round =>
  obtain ⟨k, q, hk, rfl, Z, M, rfl, F, D⟩ := hrel; obtain ⟨oa, on_, oc, rfl⟩ := F.shape3; have E := qq M; clear M; by_cases ab : k < A
  ·have N : (k : Int) < (A : Int) := by omega
   have H := qq (aao k n.toNat)
   have ac : IntKind.u64.wrap (q.tdiv 256) = q / 256 := by
    rw [Int.tdiv_eq_ediv_of_nonneg Z]; have N := Y.out; have h2 := E.out; have h3 := Nat.div_le_self n.toNat (256 ^ k); exact bau _ (by omega) (by omega)
   have hx : IntKind.u8.wrap (q % 256) = ((UInt8.ofNat (n.toNat / 256 ^ k % 256)).toNat : Int) := by
    rw [E.out, UInt8.toNat_ofNat', Nat.mod_mod]
    have e : ∀ z : Int, 0 ≤ z → z < 256 → IntKind.u8.wrap z = z := fun z h0 N => by
     have e : IntKind.u8.wrap z = z % 256 := rfl; rw [e]; omega
    rw [e _ (by omega) (by omega)]; omega
   have J : q % 256 = ((UInt8.ofNat (n.toNat / 256 ^ k % 256)).toNat : Int) := by rw [E.out, UInt8.toNat_ofNat', Nat.mod_mod]; omega
   have W := qq J; clear hx J; have U := qq (asr k n.toNat); have I := D.alloc D.size (.cells #[.int .u8 (q % 256)] 5); have X := Own.byte1 wr (UInt8.ofNat (n.toNat / 256 ^ k % 256)) (q % 256) W.out (qj wr.heap.size); have hS := (F.alloc (.cells #[.int .u8 (q % 256)] 5)).slc aaa; go_wp2_with (at_builtin; refine aaj (base := wr.heap.size) rfl (.tmp 15) (.tmp 16) 189 5 rfl abx aaa aay _ _ rfl X _ (be k n.toNat) rfl hS (by rw [H.out]; simp; unfold maxLen; omega) (by rw [H.out]; simp; omega) (by simp) ?_; intro v' w1 K h ae ad); go_roundw
   case rel => exact ⟨k + 1, q / 256, by omega, by go_num, by omega, by rw [E.out, Nat.pow_succ, ← Nat.div_div_eq_div_mul]; omega, rfl, by rw [U.out]; exact K.rebase (fun i hi => jk D.size (K.ge hi)), I.grown h I.size (fun j e => by cases e; exact D.size)⟩
   case measure => simp [intOf]; omega
  ·obtain rfl : k = A := by omega
   go_wp2; go_ret; exact ⟨_, rfl, F, D⟩
def DrS (w : World) (rb : Nat) (b : List UInt8) (bad : Bool) : Prop :=
 ∃ bv, Blk w rb [bv, .bool bad] ∧ Slc aax 1 w bv b ∧ ∀ k, bv.ownBlock = some k → k < rb
theorem DrS.pure {w w' : World} {vb : Nat} {b : List UInt8} {bad : Bool} (h : DrS w vb b bad) (A : Below w.heap.size w w') : DrS w' vb b bad := by
 obtain ⟨bv, D, E, F⟩ := h
 exact ⟨bv, D.pure A, E.pure A, F⟩
theorem DrS.cells {w : World} {rb : Nat} {b : List UInt8} {bad : Bool} (h : DrS w rb b bad) : ∃ a c, w.cell? ⟨rb, 0, none⟩ = some (.slice a b.length c) ∧ w.cell? ⟨rb, 1, none⟩ = some (.bool bad) := by
 obtain ⟨bv, A, E, F⟩ := h
 obtain ⟨a, D, rfl, -⟩ := E.len
 exact ⟨a, D, A.at 0 rfl, A.at 1 rfl⟩
def abv (s : ByteArray) : List Value := [.string s]
theorem ac7 (p : ByteArray) : (abv p).length = 1 := rfl
theorem ala (p : ByteArray) : ∀ u ∈ abv p, u.oneCell' = true := by simp [abv, Value.oneCell']
inductive VT where
 | mk (k n : Int) (s : ByteArray) (kv lv : Value) (ks : List ByteArray) (l : List VT)
namespace VT
open Tryz
def k : VT → Int | .mk k _ _ _ _ _ _ => k
def n : VT → Int | .mk _ n _ _ _ _ _ => n
def s : VT → ByteArray | .mk _ _ s _ _ _ _ => s
def kv : VT → Value | .mk _ _ _ kv _ _ _ => kv
def lv : VT → Value | .mk _ _ _ _ lv _ _ => lv
def ks : VT → List ByteArray | .mk _ _ _ _ _ ks _ => ks
def l : VT → List VT | .mk _ _ _ _ _ _ l => l
theorem ind {P : VT → Prop} (h : ∀ t : VT, (∀ x ∈ t.l, P x) → P t) : ∀ t, P t
 | .mk k n s kv lv ks l => h (.mk k n s kv lv ks l) (fun t (A : t ∈ l) => ind h t)
mutual
def v : VT → V
 | .mk k n s _ _ ks l => .mk k n s ks (vL l)
def vL : List VT → List V
 | [] => []
 | x :: xs => v x :: vL xs
end
theorem ax9 : ∀ l : List VT, vL l = l.map v
 | [] => by unfold vL; rfl
 | x :: xs => by unfold vL; rw [ax9 xs]; rfl
theorem v_eq (t : VT) : t.v = .mk t.k t.n t.s t.ks (t.l.map v) := by
 cases t with
 | mk k n s kv lv ks l => unfold v; rw [ax9]; rfl
end VT
def ac6 (t : VT) : List Value := [.int .u8 t.k, .int .u64 t.n, .string t.s, t.kv, t.lv]
theorem aak (t : VT) : (ac6 t).length = 5 := rfl
inductive Rd (P : Nat → Prop) (w : World) : VT → Prop
 | mk {t : VT} : Slc abv 1 w t.kv t.ks → (t.ks ≠ [] → ∀ b, t.kv.ownBlock = some b → P b) → Slc ac6 5 w t.lv t.l → (t.l ≠ [] → ∀ b, t.lv.ownBlock = some b → P b) →
  (∀ x ∈ t.l, Rd P w x) → 0 ≤ t.n → t.n < 18446744073709551616 → 0 ≤ t.k → t.k < 256 → Rd P w t
section
variable {P Q : Nat → Prop} {w w' : World} {t : VT}
theorem Rd.kv (h : Rd P w t) : Slc abv 1 w t.kv t.ks := by cases h; assumption
theorem Rd.kb (h : Rd P w t) : t.ks ≠ [] → ∀ b, t.kv.ownBlock = some b → P b := by cases h; assumption
theorem Rd.lv (h : Rd P w t) : Slc ac6 5 w t.lv t.l := by cases h; assumption
theorem Rd.lb (h : Rd P w t) : t.l ≠ [] → ∀ b, t.lv.ownBlock = some b → P b := by cases h; assumption
theorem Rd.sub (h : Rd P w t) : ∀ x ∈ t.l, Rd P w x := by cases h; assumption
theorem Rd.n0 (h : Rd P w t) : 0 ≤ t.n := by cases h; assumption
theorem Rd.n1 (h : Rd P w t) : t.n < 18446744073709551616 := by cases h; assumption
theorem Rd.k0 (h : Rd P w t) : 0 ≤ t.k := by cases h; assumption
theorem Rd.k1 (h : Rd P w t) : t.k < 256 := by cases h; assumption
theorem Rd.wf (h : Rd P w t) : t.v.Wf := by
 induction t using VT.ind with
 | h t ih =>
  rw [VT.v_eq]
  exact .mk h.n0 h.n1 h.k0 h.k1 (fun x A => by
   obtain ⟨y, hy, rfl⟩ := jv.1 A
   exact ih y hy (h.sub y hy))
theorem aez {A : Type} {enc : A → List Value} {m : Nat} {v : Value} {L : List A} (G : ∀ x, (enc x).length = m) (I : 0 < m) (h : Slc enc m w v L) (D : L ≠ []) : ∀ b, v.ownBlock = some b → b < w.heap.size := by
 intro b H
 rcases h with ⟨_, _, _, _, rfl⟩ | ⟨g, off, J, rfl, M, K, F⟩
 ·exact jp rfl D
 ·have E : 0 < L.length := List.length_pos_iff.2 D
  have : 0 < (enc L[0]).length := by rw [G]; exact I
  have := F 0 E 0 _ (List.getElem?_eq_getElem this); have := World.block_lt_of_cell? w _ this; have e : g = b := by simpa [Value.ownBlock] using H
  subst e; exact this
theorem Slc.updL {D : Type} {enc : D → List Value} {m : Nat} {S : Nat → Prop} {v : Value} {L : List D} (h : Slc enc m w v L) (H : Upd S w w') (I : L ≠ [] → ∀ b, v.ownBlock = some b → ¬ S b) : Slc enc m w' v L := by
 by_cases E : L = []
 ·subst E
  rcases h with ⟨a, A, e, F, _⟩ | ⟨g, off, A, e, K, G, J⟩
  ·exact .inl ⟨a, A, e, F, rfl⟩
  ·exact .inl ⟨_, A, e, G, rfl⟩
 ·exact h.upd H (I E)
theorem Rd.upd {S : Nat → Prop} (h : Rd P w t) (F : Upd S w w') (D : ∀ b, P b → ¬ S b) : Rd P w' t := by
 induction t using VT.ind with
 | h t ih => exact .mk (h.kv.updL F (fun e b A => D b (h.kb e b A))) h.kb (h.lv.updL F (fun e b A => D b (h.lb e b A))) h.lb (fun x E => ih x E (h.sub x E)) h.n0 h.n1 h.k0 h.k1
theorem Rd.weaken (h : Rd P w t) (E : ∀ b, b < w.heap.size → P b → Q b) : Rd Q w t := by
 induction t using VT.ind with
 | h t ih => exact .mk h.kv (fun e b A => E b (aez ac7 (by omega) h.kv e b A) (h.kb e b A)) h.lv (fun e b A => E b (aez aak (by omega) h.lv e b A) (h.lb e b A)) (fun x D => ih x D (h.sub x D)) h.n0 h.n1 h.k0 h.k1
theorem Rd.pure (h : Rd P w t) (D : Below w.heap.size w w') : Rd P w' t := by
 induction t using VT.ind with
 | h t ih => exact .mk (h.kv.pure D) h.kb (h.lv.pure D) h.lb (fun x A => ih x A (h.sub x A)) h.n0 h.n1 h.k0 h.k1
theorem Rd.lt (h : Rd P w t) : Rd (fun b => P b ∧ b < w.heap.size) w t := h.weaken (fun b A D => ⟨D, A⟩)
end
theorem Slc.addrB {D : Type} {enc : D → List Value} {m : Nat} {w : World} {a : Option Addr} {n F : Nat} {L : List D} (h : Slc enc m w (.slice a n F) L) {k : Nat} (A : k < L.length) : ∃ g off, a = some ⟨g, off, none⟩ := by
 rcases h with ⟨_, _, _, _, G⟩ | ⟨g, off, H, E, _⟩
 ·rw [G] at A; simp at A
 ·simp only [Value.slice.injEq] at E; exact ⟨g, off, E.1⟩
theorem aoo {w : World} {g off n D k : Nat} {L : List VT} (h : Slc ac6 5 w (.slice (some ⟨g, off, none⟩) n D) L) (A : k < L.length) :
 w.cell? ⟨g, off + k * 5, none⟩ = some (.int .u8 L[k].k) ∧ w.cell? ⟨g, off + k * 5 + 1, none⟩ = some (.int .u64 L[k].n) ∧ w.cell? ⟨g, off + k * 5 + 2, none⟩ = some (.string L[k].s) ∧ w.cell? ⟨g, off + k * 5 + 3, none⟩ = some L[k].kv ∧ w.cell? ⟨g, off + k * 5 + 4, none⟩ = some L[k].lv :=
 ⟨h.get k A 0 _ rfl, h.get k A 1 _ rfl, h.get k A 2 _ rfl, h.get k A 3 _ rfl, h.get k A 4 _ rfl⟩
def VT.arg (t : VT) : Value := .agg #[.int .u8 t.k, .int .u64 t.n, .string t.s, t.kv, t.lv]
theorem VT.arg_mk (k n : Int) (s : ByteArray) (kv lv : Value) (ks : List ByteArray) (l : List VT) : (VT.mk k n s kv lv ks l).arg = .agg #[.int .u8 k, .int .u64 n, .string s, kv, lv] := rfl
theorem ae4 {P : Nat → Prop} {w : World} {g off n W : Nat} {L : List VT} (h : Slc ac6 5 w (.slice (some ⟨g, off, none⟩) n W) L) {i : Nat} (hi : i < L.length) (G : Rd P w L[i]) :
 ∃ (k n : Int) (s : ByteArray) (D : Option Addr) (K F : Nat) (E : Option Addr) (J A : Nat) (ks : List ByteArray) (l : List VT), L[i] = .mk k n s (.slice D K F) (.slice E J A) ks l ∧
  w.cell? ⟨g, off + i * 5, none⟩ = some (.int .u8 k) ∧ w.cell? ⟨g, off + i * 5 + 1, none⟩ = some (.int .u64 n) ∧ w.cell? ⟨g, off + i * 5 + 2, none⟩ = some (.string s) ∧ w.cell? ⟨g, off + i * 5 + 3, none⟩ = some (.slice D K F) ∧ w.cell? ⟨g, off + i * 5 + 4, none⟩ = some (.slice E J A) := by
 obtain ⟨N, H, O, M, I⟩ := aoo h hi
 obtain ⟨x, Z⟩ := qx (L[i])
 rw [Z] at G N H O M I ⊢
 obtain ⟨k, n, s, kv, lv, ks, l⟩ := x
 obtain ⟨D, F, Y, -⟩ := G.kv.len
 obtain ⟨E, A, z, -⟩ := G.lv.len
 have X : kv = .slice D ks.length F := Y
 have U : lv = .slice E l.length A := z
 subst X U
 exact ⟨_, _, _, _, _, _, _, _, _, _, _, rfl, N, H, O, M, I⟩
theorem Rd.open {P : Nat → Prop} {w : World} {t : VT} (h : Rd P w t) : ∃ (k n : Int) (s : ByteArray) (D : Option Addr) (F : Nat) (E : Option Addr) (A : Nat) (ks : List ByteArray) (l : List VT), t = .mk k n s (.slice D ks.length F) (.slice E l.length A) ks l ∧
 Slc abv 1 w (.slice D ks.length F) ks ∧ Slc ac6 5 w (.slice E l.length A) l ∧ (ks.length : Int) ≤ 9223372036854775807 ∧ (l.length : Int) ≤ 9223372036854775807 := by
 have H := h.kv; have G := h.lv
 obtain ⟨k, n, s, kv, lv, ks, l⟩ := t
 obtain ⟨D, F, M, mk⟩ := H.len
 obtain ⟨E, A, N, I⟩ := G.len
 unfold maxLen at mk I
 have K : kv = .slice D ks.length F := M
 have J : lv = .slice E l.length A := N
 subst K J
 exact ⟨_, _, _, _, _, _, _, _, _, rfl, H, G, by have : ks.length ≤ 9223372036854775807 := mk; omega, by have : l.length ≤ 9223372036854775807 := I; omega⟩
open Tryz
section
variable {P : Program} {ops : Array Oper} {o : Oper} {a : Act} {w : World}
theorem ay2 {K : Act → World → Prop} {Q : Exit → Act → World → Prop} {r : Result Next} (h : o.upon P a K (fun e a w => e = .normal ∧ K a w) r) : o.upon P a K Q r := by
 cases r with
 | ok n w' =>
  cases n with
  | enter f args =>
   refine Calls.mono (R := _) h ?_; intro e E A
   cases e with
   | returned v => exact A
   | panicked chain => exact jp A.1 (by simp)
   | outgrown => obtain ⟨_, _, D, _⟩ := A; exact jp D (by simp)
  | _ => first | exact h | exact h.elim
 | halt x w' =>
  cases x with
  | panic v => exact jp h.1 (by simp)
  | _ => first | exact h | exact h.elim
theorem abe {K : Act → World → Prop} {Q : Exit → Act → World → Prop} {Z : Prop} (D : o.guard = none) (h : wpList P ops (fun e a w => e = .normal ∧ K a w) [o] a w) :
 if Region.wanted o (yielded ops a.tmps) = true then Oper.wp P o a w K Q else Z := by
 have A : Region.wanted o (yielded ops a.tmps) = true := by simp [Region.wanted, D]
 rw [qw A]
 unfold wpList at h
 rw [qw A] at h
 have e : wpList P ops (fun e a w => e = .normal ∧ K a w) [] = K := by funext a w; exact propext ⟨And.right, fun h => ⟨rfl, h⟩⟩
 rw [e] at h
 rcases h with h | ⟨_, E, w', h, _⟩
 ·exact ay2 h
 ·exact jp h (by simp)
end
section
variable {P : Program} {ops : Array Oper} {Q : Exit → Act → World → Prop} {md : Region.Mode} {S : World → Prop}
theorem avt (i d : Nat) {A : Oper} {v : Value} {fuel : Nat} {listed : Array Bool} {a : Act} {w : World} (hi : ops[i]? = some A) (H : A.dst = some d)
 (hs : Region.noSelect ops = true) (D : Region.free md ops listed i = true) (E : (Region.ready md ops listed).contains i = true)
 (F : ∀ c a w, Q (.panic c) (a.put A.dst v) w → Q (.panic c) a w) (hy : YieldsIf P ops S A v a) (G : S w)
 (h : wpAnyH P md ops Q S fuel (listed.setIfInBounds i true) (a.put (some d) v) w) : wpAnyH P md ops Q S (fuel + 1) listed a w :=
 wpAnyH_take hi hs D E F hy G (by rw [H]; exact h)
theorem agu (i d : Nat) {A : Oper} {fuel : Nat} {listed : Array Bool} {a : Act} {w : World} (hi : ops[i]? = some A) (H : A.dst = some d)
 (G : S w) (h : wpAnyH P md ops Q S fuel (listed.setIfInBounds i true) (a.put (some d) undef) w)
 (hs : Region.noSelect ops = true := by kernel_rfl) (D : Region.free md ops listed i = true := by kernel_rfl) (E : (Region.ready md ops listed).contains i = true := by kernel_rfl)
 (I : Region.wanted A (yielded ops a.tmps) = false := by kernel_rfl) (F : ∀ c a w, Q (.panic c) (a.put A.dst undef) w → Q (.panic c) a w := by exact fun _ _ _ h => h) : wpAnyH P md ops Q S (fuel + 1) listed a w :=
 avt i d hi H hs D E F (Or.inr ⟨I, rfl⟩) G h
end
theorem lsT {A : Type _} (l : List A) (i : Nat) (a : A) : l.toArray.setIfInBounds i a = (l.set i a).toArray := List.setIfInBounds_toArray l i a
theorem lsZ {A : Type _} (a b : A) (l : List A) : (a :: l).set 0 b = b :: l := rfl
theorem lsS {A : Type _} (a b : A) (l : List A) (n : Nat) : (a :: l).set (n + 1) b = a :: l.set n b := rfl
theorem ai3 (f : Int → List UInt8 → Option (V × Int × List UInt8)) (m : Bool) (D : ∀ left b x A G, f left b = some (x, A, G) → 0 ≤ A ∧ A ≤ left) :
 ∀ (n : Nat) (left : Int) (b : List UInt8) (ks : List ByteArray) (l : List V) (A : Int) (r : List UInt8), abk f m n left b = some (ks, l, A, r) → 0 ≤ left → 0 ≤ A ∧ A ≤ left
 | 0, left, b, ks, l, A, r, h, h0 => by
  unfold abk at h; simp only [jy, jm] at h; obtain ⟨-, -, rfl, -⟩ := h; omega
 | n + 1, left, b, ks, l, A, r, h, h0 => by
  unfold abk at h; obtain ⟨⟨key, b1⟩, N, h⟩ := aah h; obtain ⟨⟨x, J, b2⟩, E, h⟩ := aah h; obtain ⟨⟨H, I, K, M⟩, F, h⟩ := aah h; simp only [jy, jm] at h; obtain ⟨-, -, rfl, -⟩ := h; have a := D _ _ _ _ _ E; have b := ai3 f m D n _ _ _ _ _ _ F a.1; omega
theorem ap4 : ∀ (d : Nat) (left : Int) (b : List UInt8) (v : V) (A : Int) (r : List UInt8), rdP d left b = some (v, A, r) → 0 ≤ A ∧ A ≤ left
 | 0, left, b, v, A, r, h => by unfold rdP at h; simp at h
 | d + 1, left, b, v, A, r, h => by
  unfold rdP at h; obtain ⟨⟨k, b1⟩, M, h⟩ := aah h; dsimp only at h; split at h
  ·cases h
  rename_i hl; split at h
  ·simp only [jy, jm] at h; obtain ⟨-, rfl, -⟩ := h; omega
  split at h
  ·obtain ⟨⟨n, b2⟩, D, h⟩ := aah h
   simp only [jy, jm] at h; obtain ⟨-, rfl, -⟩ := h; omega
  split at h
  ·obtain ⟨⟨n, b2⟩, D, h⟩ := aah h
   simp only [jy, jm] at h; obtain ⟨-, rfl, -⟩ := h; omega
  split at h
  ·obtain ⟨⟨n, b2⟩, D, h⟩ := aah h
   simp only [jy, jm] at h; obtain ⟨-, rfl, -⟩ := h; omega
  split at h
  ·obtain ⟨⟨n, b2⟩, D, h⟩ := aah h
   simp only [jy, jm] at h; obtain ⟨-, rfl, -⟩ := h; omega
  split at h
  ·obtain ⟨⟨n, b2⟩, D, h⟩ := aah h
   obtain ⟨⟨n', K⟩, I, h⟩ := aah h; dsimp only at h; split at h
   ·obtain ⟨⟨ks, G, J, H⟩, F, h⟩ := aah h
    dsimp only at h; split at h
    ·simp only [jy, jm] at h; obtain ⟨-, rfl, -⟩ := h
     have := ai3 _ _ (fun left b x A E h => ap4 d left b x A E h) _ _ _ _ _ _ _ F (by omega); omega
    ·cases h
   ·cases h
  ·cases h
theorem asw {d : Nat} {left : Int} {b : List UInt8} {v : V} {A : Int} {r : List UInt8} (h : rdP d left b = some (v, A, r)) : r.length ≤ b.length := by
 have := (aog d left b v A r h).1
 rw [this, jz]; omega
theorem bco {w A : Nat} {b r : List UInt8} {s : ByteArray} (h : gT w A b = some (s, r)) : r.length ≤ b.length := by
 have := (apw h).1
 rw [this]; simp only [jz]; omega
def PR (w : World) (qb rb vb : Nat) (left : Int) (b : List UInt8) (bad : Bool) : Prop :=
 Blk w qb [.pointer (some ⟨rb, 0, none⟩), .int .i64 left] ∧ RdP w rb vb ∧ RdS w vb b bad ∧ rb < qb
def Two (qb vb : Nat) (k : Nat) : Prop := k = qb ∨ k = vb
section
variable {S : Nat → Prop} {w w' : World} {qb rb vb : Nat} {left : Int} {b : List UInt8} {bad : Bool}
theorem alb {P : Prop} (h : P := by
 obtain ⟨bv, h1, h2, h3⟩ := h
 exact ⟨bv, h1.upd hu (fun e => by have := hS _ e; omega), h2.upd hu (fun k hk e => by have := hS _ e; have := h3 k hk; omega), h3⟩) : P := h
theorem RdS.above (h : RdS w vb b bad) (hu : Upd S w w') (hS : ∀ k, S k → vb < k) : RdS w' vb b bad := by
 exact alb
theorem PR.q (h : PR w qb rb vb left b bad) : Blk w qb [.pointer (some ⟨rb, 0, none⟩), .int .i64 left] := h.1
theorem PR.p (h : PR w qb rb vb left b bad) : RdP w rb vb := h.2.1
theorem PR.s (h : PR w qb rb vb left b bad) : RdS w vb b bad := h.2.2.1
theorem PR.vq (h : PR w qb rb vb left b bad) : vb < qb := Nat.lt_trans h.2.1.2 h.2.2.2
theorem PR.lt (h : PR w qb rb vb left b bad) : qb < w.heap.size := h.1.lt
theorem PR.above (h : PR w qb rb vb left b bad) (D : Upd S w w') (A : ∀ k, S k → qb < k) : PR w' qb rb vb left b bad :=
 ⟨h.1.upd D (fun e => by have := A _ e; omega), ⟨h.2.1.1.upd D (fun e => by have := A _ e; have := h.2.2.2; omega), h.2.1.2⟩, h.2.2.1.above D (fun k E => by have := A _ E; have := h.vq; omega), h.2.2.2⟩
theorem PR.pure (h : PR w qb rb vb left b bad) (A : Below w.heap.size w w') : PR w' qb rb vb left b bad :=
 ⟨h.1.pure A, h.2.1.pure A, h.2.2.1.pure A, h.2.2.2⟩
theorem PR.turn {b' : List UInt8} {A : Bool} (h : PR w qb rb vb left b bad) (hs : RdS w' vb b' A) (D : Upd (acu vb) w w') : PR w' qb rb vb left b' A :=
 ⟨h.1.upd D (fun e => by have := h.vq; unfold acu at e; omega), h.2.1.upd D, hs, h.2.2.2⟩
theorem PR.setL (h : PR w qb rb vb left b bad) (l : Int) : PR (w.setCell ⟨qb, 1, none⟩ (.int .i64 l)) qb rb vb l b bad := by
 have A : Upd (fun k => k = qb) w (w.setCell ⟨qb, 1, none⟩ (.int .i64 l)) := Upd.set (S := fun k => k = qb) (p := ⟨qb, 1, none⟩) rfl _
 refine ⟨h.1.set 1 (.int .i64 l), ⟨h.2.1.1.upd A (fun e => Nat.ne_of_lt h.2.2.2 e), h.2.1.2⟩, h.2.2.1.above A (fun k D => by have := h.vq; omega), h.2.2.2⟩
end
abbrev wrongE : PanicEntry := { v := .iface 232 (.agg #[]), recovered := false }
theorem aih (w : World) (qb rb vb : Nat) (left : Int) (b : List UInt8) (h : PR w qb rb vb left b false) :
 Calls prog 201 #[.pointer (some ⟨qb, 0, none⟩), .bool true] w fun e w' => e = .returned (.tuple #[]) ∧ w = w' := by
 have A := h.1.at 0 rfl
 go_enter func201, ntmps201
 go_wp2_with fail
 refine (aei _ rb vb b false h.2.1 h.2.2.1).mono ?_
 rintro e D ⟨rfl, rfl⟩
 go_wp2
 go_end0
 exact ⟨rfl, rfl⟩
theorem agy (w : World) (qb rb vb : Nat) (left : Int) (b : List UInt8) (A n : Nat) (c : Int) (r : List UInt8) (h : PR w qb rb vb left b false) (D : c = (A : Int)) (G : Wd A) (E : gN A b = some (n, r)) (F : Big b.length) :
 Calls prog 169 #[.pointer (some ⟨rb, 0, none⟩), .int .i64 c] w fun e w' => e = .returned (.int .u64 n) ∧ PR w' qb rb vb left r false ∧ Upd (acu vb) w w' := by
 subst D
 exact (ai2 w rb vb b A n r h.p h.s G E F).mono fun e w' ⟨a, b, c⟩ => ⟨a, h.turn b c, c⟩
theorem ai4 (w : World) (qb rb vb : Nat) (left : Int) (b : List UInt8) (A D : Nat) (c m : Int) (s : ByteArray) (r : List UInt8) (h : PR w qb rb vb left b false) (E : c = (A : Int)) (I : m = (D : Int)) (F : A = 1 ∨ A = 2 ∨ A = 4) (J : D ≤ 4096) (G : gT A D b = some (s, r)) (H : Big b.length) :
 Calls prog 197 #[.pointer (some ⟨rb, 0, none⟩), .int .i64 c, .int .i64 m] w fun e w' => e = .returned (.string s) ∧ PR w' qb rb vb left r false ∧ Upd (acu vb) w w' := by
 subst E I
 exact (ap3 w rb vb b A D s r h.p h.s F G H (by unfold Big; omega)).mono fun e w' ⟨a, b, c⟩ => ⟨a, h.turn b c, c⟩
theorem ba9 (w : World) (qb rb vb : Nat) (left : Int) (b : List UInt8) (bad : Bool) (h : PR w qb rb vb left b bad) :
 Calls prog 171 #[.pointer (some ⟨rb, 0, none⟩)] w fun e w' => e = .returned (.int .i64 b.length) ∧ w = w' := aeh w rb vb b bad h.p h.s
def avy (w : World) (qb rb vb : Nat) : Option (V × Int × List UInt8) → Ending → World → Prop
 | none, e, w' => e = .panicked [wrongE] ∧ Upd (Two qb vb) w w'
 | some (x, left, r), e, w' => ∃ t : VT, e = .returned t.arg ∧ t.v = x ∧ Rd (fun k => w.heap.size ≤ k) w' t ∧ PR w' qb rb vb left r false ∧ Upd (Two qb vb) w w'
def aop (qb vb xb : Nat) (k : Nat) : Prop := k = qb ∨ k = vb ∨ k = xb
def avz (w : World) (qb rb vb xb : Nat) (k : Int) : Option (List ByteArray × List V × Int × List UInt8) → Ending → World → Prop
 | none, e, w' => e = .panicked [wrongE] ∧ Upd (aop qb vb xb) w w'
 | some (ks, l, left, r), e, w' => ∃ (kv lv : Value) (L : List VT), e = .returned (.tuple #[]) ∧ Blk w' xb [.int .u8 k, .int .u64 0, .string ⟨#[]⟩, kv, lv] ∧ Own w.heap.size 9 1 abv w' kv ks ∧ Own w.heap.size 56 5 ac6 w' lv L ∧ L.map VT.v = l ∧
  (∀ x ∈ L, Rd (fun k => w.heap.size ≤ k) w' x) ∧ PR w' qb rb vb left r false ∧ Upd (aop qb vb xb) w w'
def rdM (f : Int → List UInt8 → Option (V × Int × List UInt8)) (m : Bool) (left : Int) (b1 : List UInt8) : Option (List ByteArray × List V × Int × List UInt8) :=
 (gN 4 b1).bind fun (size, b2) => (gN 4 b2).bind fun (n, b3) =>
 if size ≤ b2.length ∧ n < 200 then (abk f m n left b3).bind fun (ks, l, left2, b4) => if b2.length - b4.length = size then some (ks, l, left2, b4) else none else none
theorem Blk.newK (w : World) (A : List Value) (T : TypeId) (k : Nat) (h : w.heap.size = k) : Blk (w.alloc (.cells A.toArray T)) k A := h ▸ Blk.new w A T
section
variable {S : Nat → Prop} {w w' : World} {B : Nat}
abbrev set5 (w : World) (B : Nat) (v0 v1 v2 v3 v4 : Value) : World := ((((w.setCell ⟨B, 0, none⟩ v0).setCell ⟨B, 1, none⟩ v1).setCell ⟨B, 2, none⟩ v2).setCell ⟨B, 3, none⟩ v3).setCell ⟨B, 4, none⟩ v4
theorem af7 {P : Prop} (h : P := by
 exact ((((s _ _ _).trans (s _ _ _) (fun _ h _ => h)).trans (s _ _ _) (fun _ h _ => h)).trans (s _ _ _) (fun _ h _ => h)).trans (s _ _ _) (fun _ h _ => h)) : P := h
theorem Upd.at5 (w : World) (B : Nat) (G E D F A : Value) : Upd (fun k => k = B) w (set5 w B G E D F A) := by
 have s := fun (u : World) (i : Nat) (v : Value) => Upd.set (S := fun k => k = B) (w := u) (p := ⟨B, i, none⟩) rfl v
 exact af7
theorem Upd.fresh5 (h : Upd S w w') (H : w.heap.size ≤ B) (G E D F A : Value) : Upd S w (set5 w' B G E D F A) := h.trans (Upd.at5 w' B G E D F A) (fun i e hi => by omega)
theorem PR.fresh5 {qb rb vb : Nat} {left : Int} {b : List UInt8} {bad : Bool} (h : PR w qb rb vb left b bad) (H : qb < B) (D E G F A : Value) : PR (set5 w B D E G F A) qb rb vb left b bad := h.above (Upd.at5 w B D E G F A) (fun k e => by omega)
theorem Blk.fresh5 {K J I H M : Value} (h : Blk w B [K, J, I, H, M]) (G F E D A : Value) : Blk (set5 w B G F E D A) B [G, F, E, D, A] := ((((h.set 0 G).set 1 F).set 2 E).set 3 D).set 4 A
end
theorem Rd.leaf {P : Nat → Prop} {w : World} {k n : Int} {s : ByteArray} (D : 0 ≤ n) (A : n < 18446744073709551616) (E : 0 ≤ k) (F : k < 256) : Rd P w (.mk k n s (.slice none 0 0) (.slice none 0 0) [] []) :=
 .mk (Slc.nil _ _ _) (fun e => jp rfl e) (Slc.nil _ _ _) (fun e => jp rfl e) (fun x G => jp G (by simp [VT.l])) D A E F
theorem bcp (w : Nat) (b : List UInt8) : b.length < w ∨ ∃ n r, gN w b = some (n, r) := by
 by_cases h : w ≤ b.length
 ·exact .inr ⟨_, _, qw h⟩
 ·exact .inl (by omega)
theorem gN8 {n : Nat} {b r : List UInt8} (h : gN 1 b = some (n, r)) : n < 256 := (ahy h).2
theorem av0 (f : Int → List UInt8 → Option (V × Int × List UInt8)) (m : Bool) (k left : Int) (b1 : List UInt8) :
 ((gN 4 b1).bind fun (x : Nat × List UInt8) => (gN 4 x.2).bind fun (y : Nat × List UInt8) =>
  if x.1 ≤ x.2.length ∧ y.1 < 200 then
   (abk f m y.1 left y.2).bind fun (z : List ByteArray × List V × Int × List UInt8) => if x.2.length - z.2.2.2.length = x.1 then some (V.mk k 0 ByteArray.empty z.1 z.2.1, z.2.2.1, z.2.2.2) else none
  else none) = (rdM f m left b1).bind fun (z : List ByteArray × List V × Int × List UInt8) => some (V.mk k 0 ByteArray.empty z.1 z.2.1, z.2.2.1, z.2.2.2) := by
 unfold rdM
 rcases gN 4 b1 with _ | ⟨size, b2⟩
 ·rfl
 rw [Option.bind_some, Option.bind_some]
 dsimp only
 rcases gN 4 b2 with _ | ⟨n, A⟩
 ·rfl
 rw [Option.bind_some, Option.bind_some]
 dsimp only
 split
 ·rcases abk f m n left A with _ | ⟨ks, l, D, E⟩
  ·rfl
  rw [Option.bind_some, Option.bind_some]; dsimp only; split <;> rfl
 ·rfl
theorem Upd.two {qb vb : Nat} {a b c : World} (h : Upd (Two qb vb) a b) (k : Upd (Two qb vb) b c) : Upd (Two qb vb) a c := h.trans k (fun _ h _ => h)
theorem Upd.only_two {qb vb : Nat} {a b : World} (h : Upd (acu vb) a b) : Upd (Two qb vb) a b := h.mono (fun k A _ => Or.inr A)
theorem aq4 (w : World) (s : ByteArray) (hs : s.size ≤ 1000000000) : ∃ c W, (convert 9 189 (.string s)).run prog w = .ok (.slice (some ⟨w.heap.size, 0, none⟩) s.size c) W ∧ Slc aax 1 W (.slice (some ⟨w.heap.size, 0, none⟩) s.size c) s.data.toList ∧ Below w.heap.size w W := by
 refine ⟨_, _, Lib.run_convert_string_bytes w _ _ 5 s underlying9 underlying189 underlying5, ?_, ?_⟩
 ·have e : s.data.toList.length = s.size := acj s
  refine .inr ⟨w.heap.size, 0, _, by rw [e], by rw [e]; exact grownCap_ge _ _ _ _, grownCap_le_maxLen _ _ _ _ (by unfold maxLen; omega), fun i hi j u A => ?_⟩; have E : j < 1 := (List.getElem?_eq_some_iff.1 A).1; obtain rfl : j = 0 := by omega
  rw [show 0 + i * 1 + 0 = i by omega, Lib.bytesWorld_cell w _ s i (by omega), List.getD_eq_getElem?_getD, List.getElem?_eq_getElem hi]; exact A
 ·exact ⟨rfl, rfl, rfl, by rw [Lib.bytesWorld_size]; omega, fun k D => Lib.bytesWorld_at_old w _ s k D⟩
theorem aya (n : Nat) (r : RS) : (tkR n r).2.1.length ≤ r.1.length := by unfold tkR; split <;> simp
theorem ayb (n : Nat) (r : RS) : (nmR n r).2.1.length ≤ r.1.length := by
 unfold nmR
 split
 ·rcases h : gN n r.1 with _ | ⟨m, b⟩
  ·simp
  ·exact (aks h).2.1
 ·simp
theorem bcq {w D : Nat} {b : List UInt8} {s : ByteArray} {r : List UInt8} (h : gT w D b = some (s, r)) : r.length ≤ b.length ∧ s.size ≤ D := by
 obtain ⟨⟨n, b1⟩, E, A⟩ := aah h
 have F := (aks E).2.1
 dsimp only at A
 split at A
 ·rename_i hc
  simp only [jy, jm] at A; obtain ⟨rfl, rfl⟩ := A; refine ⟨by rw [List.length_drop]; omega, ?_⟩; have : (List.take n b1).length ≤ D := by rw [List.length_take]; omega
  simpa [ByteArray.size] using this
 ·simp at A
theorem bba (n m : Nat) (r : RS) : (txR n m r).2.1.length ≤ r.1.length := by
 unfold txR
 split
 ·rcases h : gT n m r.1 with _ | ⟨s, b⟩
  ·simp
  ·exact (bcq h).1
 ·simp
theorem asx (is : Bool) (r : RS) : (aoj is r).2.1.length ≤ r.1.length := by
 unfold aoj
 split
 ·exact bba _ _ _
 ·exact qj _
theorem ayc (n : Nat) (r : RS) : (nmR n r).1 < 256 ^ n := by
 unfold nmR
 split
 ·rcases h : gN n r.1 with _ | ⟨m, b⟩
  ·exact Nat.pow_pos (by omega)
  ·exact (aks h).1
 ·exact Nat.pow_pos (by omega)
theorem al7 (w : World) (rb vb : Nat) (r : RS) (n : Nat) (I : RdP w rb vb) (hs : RdS w vb r.1 r.2) (J : Big r.1.length) :
 Calls prog 168 #[.pointer (some ⟨rb, 0, none⟩), .int .i64 n] w fun e w' => ∃ v, e = .returned v ∧ Slc aax 1 w' v (tkR n r).1 ∧ (∀ k, v.ownBlock = some k → w.heap.size ≤ k) ∧ RdS w' vb (tkR n r).2.1 (tkR n r).2.2 ∧ Upd (acu vb) w w' := by
 obtain ⟨b, bad⟩ := r
 unfold tkR
 by_cases h : bad = false ∧ n ≤ b.length
 ·obtain ⟨rfl, G⟩ := h
  rw [qw ⟨rfl, G⟩]; exact (al5 w rb vb b n I hs G J).mono fun e w' ⟨v, F, H, D, E⟩ => ⟨v, F, H.slc aaa, fun k A => H.ge A, D, E⟩
 ·rw [qk h]
  refine (ast w rb vb b bad n I hs (by cases bad with | true => exact .inl rfl | false => exact .inr (by have : ¬ n ≤ b.length := fun e => h ⟨rfl, e⟩; omega))).mono fun e w' ⟨F, D, E⟩ => ⟨_, F, Slc.nil0, (fun k A => by cases A), D, E⟩
theorem asy (w : World) (rb vb : Nat) (r : RS) (A : Nat) (F : RdP w rb vb) (hs : RdS w vb r.1 r.2) (E : Wd A) (G : Big r.1.length) :
 Calls prog 169 #[.pointer (some ⟨rb, 0, none⟩), .int .i64 A] w fun e w' => e = .returned (.int .u64 (nmR A r).1) ∧ RdS w' vb (nmR A r).2.1 (nmR A r).2.2 ∧ Upd (acu vb) w w' := by
 obtain ⟨b, bad⟩ := r
 unfold nmR
 cases bad with
 | true =>
  rw [qk (by simp)]; exact asu w rb vb b true A F hs E (.inl rfl)
 | false =>
  rw [qw rfl]; rcases h : gN A b with _ | ⟨n, b1⟩
  ·refine asu w rb vb b false A F hs E (.inr ?_)
   rcases bcp A b with D | ⟨n, r, D⟩
   ·exact D
   ·rw [D] at h; cases h
  ·exact ai2 w rb vb b A n b1 F hs E h G
theorem av1 (w : World) (rb vb : Nat) (r : RS) (A D : Nat) (H : RdP w rb vb) (hs : RdS w vb r.1 r.2) (E : A = 1 ∨ A = 2 ∨ A = 4) (F : Big r.1.length) (G : Big D) :
 Calls prog 197 #[.pointer (some ⟨rb, 0, none⟩), .int .i64 A, .int .i64 D] w fun e w' => e = .returned (.string (txR A D r).1) ∧ RdS w' vb (txR A D r).2.1 (txR A D r).2.2 ∧ Upd (acu vb) w w' := by
 obtain ⟨b, bad⟩ := r
 unfold txR
 cases bad with
 | true =>
  rw [qk (by simp)]; exact asv w rb vb b true A D H hs E (.inl rfl) F G
 | false =>
  rw [qw rfl]; rcases h : gT A D b with _ | ⟨s, b1⟩
  ·exact asv w rb vb b false A D H hs E (.inr h) F G
  ·exact ap3 w rb vb b A D s b1 H hs E h F G
section
variable {P : Program} {ops : Array Oper} {Q : Exit → Act → World → Prop} {md : Region.Mode} {S : World → Prop} {k : Nat}
def aca (P : Program) (md : Region.Mode) (ops : Array Oper) (Q : Exit → Act → World → Prop) (S : World → Prop) (k : Nat) : Nat → Array Bool → Act → World → Prop
 | 0, listed, a, w => Region.ready md ops listed = [] ∧ Q .normal a w
 | fuel + 1, listed, a, w =>
  (Region.ready md ops listed = [] → Q .normal a w) ∧
  ∀ i ∈ Region.ready md ops listed, wpOp P ops Q i (fun a' w' => ((listed.setIfInBounds i true).getD k true = false → S w') ∧ aca P md ops Q S k fuel (listed.setIfInBounds i true) a' w') a w
theorem afy : ∀ (fuel : Nat) (listed : Array Bool) (a : Act) (w : World), aca P md ops Q S k fuel listed a w → wpAny P md ops Q fuel listed a w
 | 0, _, _, _, h => h
 | fuel + 1, _, _, _, h => ⟨h.1, fun i hi => wpOp_mono (fun A w' D => afy fuel _ A w' D.2) (h.2 i hi)⟩
def aof (md : Region.Mode) (ops : Array Oper) (i : Nat) : List Nat :=
 (List.range ops.size).foldl (fun s m => if ((ops[m]?).map (·.after.any fun e => Region.binds md e && s.contains e.on)).getD false then m :: s else s) [i]
def afz (md : Region.Mode) (ops : Array Oper) (listed : Array Bool) (i : Nat) (s : List Nat) : Bool :=
 s.all fun m => !listed.getD m true && (m == i || ((ops[m]?).map (·.after.any fun e => Region.binds md e && s.contains e.on)).getD false)
theorem aq0 {listed : Array Bool} {i j : Nat} {s : List Nat} (h : afz md ops listed i s = true) (J : j ∈ Region.ready md ops listed) (H : j ≠ i) : j ∉ s := by
 intro hs
 unfold afz at h
 rw [jt] at h
 have F := h j hs
 rw [jj, Bool.or_eq_true] at F
 obtain ⟨-, M, I, G⟩ := mem_ready.1 J
 rcases F.2 with e | e
 ·exact H (by simpa using e)
 ·rw [I] at e
  simp only [Option.map_some, Option.getD_some, Array.any_eq_true'] at e; obtain ⟨x, K, e⟩ := e; rw [jj] at e; have A := G x K e.1; have E := h x.on (by simpa using e.2); rw [jj] at E; have D := E.1; rcases Nat.lt_or_ge x.on listed.size with q | q
  ·simp [q] at A D; rw [A] at D; cases D
  ·simp [Array.getElem?_eq_none q] at A
theorem aq1 {listed : Array Bool} {i j : Nat} {s : List Nat} (h : afz md ops listed i s = true) (D : j ∉ s) : afz md ops (listed.setIfInBounds j true) i s = true := by
 unfold afz at *
 rw [jt] at *
 intro m A
 have := h m A
 rwa [getD_set_ne true (fun e : j = m => D (e ▸ A))]
theorem ait {listed : Array Bool} {i k : Nat} (h : (listed.setIfInBounds i true).getD k true = false) : listed.getD k true = false := by
 by_cases e : i = k
 ·subst e
  rcases Nat.lt_or_ge i listed.size with q | q
  ·simp [q] at h
  ·simp [q] at h
 ·rwa [getD_set_ne true e] at h
theorem ahx {i : Nat} {I : Oper} {v : Value} {T : World → Prop} (s : List Nat) (aj : i ≠ k) (hi : ops[i]? = some I) (ac : ∀ (j : Nat) (o : Oper) K b, ops[j]? = some o → o.op ≠ .select K b)
 (hQ : ∀ c a w, Q (.panic c) (a.put I.dst v) w → Q (.panic c) a w) :
 ∀ (fuel : Nat) (listed : Array Bool) (a : Act) (w : World),
  (∀ j G, ops[j]? = some G → j ≠ i → listed.getD j true = false → (∀ e ∈ G.after, Region.binds md e = true → e.on ≠ i) → I.apart ops G = true) →
  i ∈ Region.ready md ops listed → ((∀ w, T w) ∨ ((∀ w, S w → T w) ∧ k ∈ s ∧ afz md ops listed i s = true)) → YieldsIf P ops T I v a → T w → (listed.getD k true = false → S w) →
  aca P md ops Q S k fuel (listed.setIfInBounds i true) (a.put I.dst v) w → aca P md ops Q S k (fuel + 1) listed a w := by
 intro fuel
 induction fuel with
 | zero =>
  intro listed a w _ E _ hy Z Y H; refine ⟨fun h => (by rw [h] at E; cases E), fun j N => ?_⟩; by_cases A : j = i
  ·subst A; exact hy.wpOp hi Z ⟨fun h => Y (ait h), H⟩
  ·have := ready_mono N A
   rw [H.1] at this; cases this
 | succ fuel ih =>
  intro listed a w aa E J hy Z Y H; refine ⟨fun h => (by rw [h] at E; cases E), fun j N => ?_⟩; by_cases A : j = i
  ·subst A; exact hy.wpOp hi Z ⟨fun h => Y (ait h), H⟩
  ·have F := H.2 j (ready_mono N A)
   obtain ⟨ab, G, W, ah⟩ := mem_ready.1 N
   have ai : ∀ e ∈ G.after, Region.binds md e = true → e.on ≠ i := fun e he hb al => by
    have F := ah e he hb; have h0 := (mem_ready.1 E).1; rw [al] at F; rcases Nat.lt_or_ge i listed.size with M | M
    ·simp [M] at h0 F; rw [h0] at F; cases F
    ·simp [Array.getElem?_eq_none M] at F
   have h2 := wpOp_putIf W (aa j G W A ab ai) (fun K b => ac i I K b hi) (fun K b => ac j G K b W) hQ hy F
   have z : ∀ k ok, ops[k]? = some ok → k ≠ i → (listed.setIfInBounds j true).getD k true = false →
    (∀ e ∈ ok.after, Region.binds md e = true → e.on ≠ i) → I.apart ops ok = true := fun k ok hk ak ag ao => by
    refine aa k ok hk ak ?_ ao; by_cases ae : j = k
    ·subst ae; exact ab
    ·rw [getD_set_ne true ae] at ag; exact ag
   have O : ∀ w', (((listed.setIfInBounds i true).setIfInBounds j true).getD k true = false → S w') → (listed.setIfInBounds j true).getD k true = false → S w' := fun w' h M => h (by
    rw [Array.setIfInBounds_comm _ _ (fun e => A e.symm), getD_set_ne true aj]; exact M)
   rcases J with J | ⟨J, af, ad⟩
   ·refine wpOp_mono (fun X w' D => ⟨O w' D.2.1, ih (listed.setIfInBounds j true) X w' z (ready_mono E (Ne.symm A)) (.inl J) D.1 (J _) (O w' D.2.1) ?_⟩) h2
    rw [Array.setIfInBounds_comm _ _ A]; exact D.2.2
   ·have am := aq0 ad N A
    have U := aq1 ad am
    have an : (listed.setIfInBounds j true).getD k true = false := by
     unfold afz at U; rw [jt] at U; have := U k af; rw [jj] at this
     simpa using this.1
    refine wpOp_mono (fun X w' D => ⟨O w' D.2.1, ih (listed.setIfInBounds j true) X w' z (ready_mono E (Ne.symm A)) (.inr ⟨J, af, U⟩) D.1 (J _ (O w' D.2.1 an)) (O w' D.2.1) ?_⟩) h2; rw [Array.setIfInBounds_comm _ _ A]; exact D.2.2
variable {fuel : Nat} {listed : Array Bool} {a : Act} {w : World}
theorem baq (i : Nat) {d : Nat} {A : Oper} {v : Value} (hi : ops[i]? = some A) (I : A.dst = some d)
 (hy : ∀ w, S w → (execOp a.eval A).run P w = .ok (.value v) w) (E : S w) (h : aca P md ops Q S k fuel (listed.setIfInBounds i true) (a.put (some d) v) w)
 (hs : Region.noSelect ops = true := by kernel_rfl) (F : Region.free md ops listed i = true := by kernel_rfl) (G : (Region.ready md ops listed).contains i = true := by kernel_rfl)
 (D : ((aof md ops i).contains k && !(i == k) && afz md ops listed i (aof md ops i)) = true := by kernel_rfl)
 (J : Region.wanted A (yielded ops a.tmps) = true := by kernel_rfl) (H : ∀ c a w, Q (.panic c) (a.put A.dst v) w → Q (.panic c) a w := by exact fun _ _ _ h => h) : aca P md ops Q S k (fuel + 1) listed a w := by
 rw [jj, jj] at D
 exact ahx (T := S) (aof md ops i) (by simpa using D.1.2) hi (Region.noSelect_spec hs) H fuel listed a w (Region.free_spec hi F) (by simpa using G) (.inr ⟨fun _ h => h, by simpa using D.1.1, D.2⟩) (.inl ⟨J, hy⟩) E (fun _ => E) (by rw [I]; exact h)
theorem aiu (i : Nat) {o : Oper} (G : ops[i]? = some o)
 (h : ∀ A : Act → World → Prop, Shut (∀ a w, S w → (S w → aca P md ops Q S k fuel (listed.setIfInBounds i true) a w) → A a w) → if Region.wanted o (yielded ops a.tmps) = true then Oper.wp P o a w A Q else A (a.put o.dst undef) w)
 (F : Region.ready md ops listed = [i] := by kernel_rfl) : aca P md ops Q S k (fuel + 1) listed a w :=
 ⟨fun H => jp (F.symm.trans H) (by simp), fun j E => by
  rw [F] at E; obtain rfl := jc.1 E
  exact wpOp_step G (fun A hK => h A (fun a w D I => hK a w ⟨fun _ => D, I D⟩))⟩
theorem aq2 (i : Nat) {o : Oper} (F : ops[i]? = some o)
 (h : ∀ A : Act → World → Prop, Shut (∀ a w, aca P md ops Q S k fuel (listed.setIfInBounds i true) a w → A a w) → if Region.wanted o (yielded ops a.tmps) = true then Oper.wp P o a w A Q else A (a.put o.dst undef) w)
 (E : Region.ready md ops listed = [i] := by kernel_rfl) (H : (listed.setIfInBounds i true).getD k true = true := by kernel_rfl) : aca P md ops Q S k (fuel + 1) listed a w :=
 ⟨fun G => jp (E.symm.trans G) (by simp), fun j D => by
  rw [E] at D; obtain rfl := jc.1 D
  exact wpOp_step F (fun A hK => h A (fun a w I => hK a w ⟨fun h => jp (H.symm.trans h) (by simp), I⟩))⟩
theorem asc (h : Q .normal a w) (A : Region.ready md ops listed = [] := by kernel_rfl) : aca P md ops Q S k fuel listed a w := by
 cases fuel with
 | zero => exact ⟨A, h⟩
 | succ _ => exact ⟨fun _ => h, by rw [A]; simp⟩
theorem aai (i : Nat) {o : Oper} (D : ops[i]? = some o)
 (h : ∀ A : Act → World → Prop, Shut (∀ a w, S w → (S w → wpAnyH P md ops Q S fuel (listed.setIfInBounds i true) a w) → A a w) → if Region.wanted o (yielded ops a.tmps) = true then Oper.wp P o a w A Q else A (a.put o.dst undef) w)
 (E : Region.ready md ops listed = [i] := by kernel_rfl) : wpAnyH P md ops Q S (fuel + 1) listed a w := wpAnyH_ready E (by simp) (AllReadyH.cons D h AllReadyH.nil)
theorem ah9 (h : Q .normal a w) (A : Region.ready md ops listed = [] := by kernel_rfl) : wpAnyH P md ops Q S fuel listed a w := wpAnyH_done A h _
theorem aal (S : World → Prop) {id : Nat} {a : Act} {w : World} (D : S w.drew) (h : S w.drew → wpAnyH P .any ops Q S ops.size (Array.replicate ops.size false) a w.drew) (A : P.follows .mixedOrders = true := by kernel_rfl) : (Code.region id ops true).wp P Q a w := wp_region_held_drew A D h
theorem acb (S : World → Prop) (k : Nat) {id : Nat} {a : Act} {w : World} (A : S w.drew)
 (h : S w.drew → aca P .any ops Q S k ops.size (Array.replicate ops.size false) a w.drew) (D : P.follows .mixedOrders = true := by kernel_rfl) : (Code.region id ops true).wp P Q a w :=
 wp_region_any D (afy _ _ _ _ (h A))
end
section
variable {P : Program} {ops : Array Oper} {Q : Exit → Act → World → Prop} {md : Region.Mode} {S : World → Prop} {fuel : Nat} {listed : Array Bool} {a : Act} {w : World}
theorem tkH (i : Nat) {d : Nat} {D : Oper} {v : Value} {A : Act} {L : Array Bool} (J : S w) (h : wpAnyH P md ops Q S fuel L A w) (hi : ops[i]? = some D := by rfl) (M : D.dst = some d := by rfl)
 (hy : ∀ w, S w → (execOp a.eval D).run P w = .ok (.value v) w := by intro v E; clear E; go_simp; (try with_reducible rfl))
 (F : a.put (some d) v = A := by (try simp only [Act.put, lsT, lsZ, lsS]); rfl) (K : listed.setIfInBounds i true = L := by (try simp only [lsT, lsZ, lsS]); rfl)
 (hs : Region.noSelect ops = true := by kernel_rfl) (G : Region.free md ops listed i = true := by kernel_rfl) (H : (Region.ready md ops listed).contains i = true := by kernel_rfl)
 (N : Region.wanted D (yielded ops a.tmps) = true := by kernel_rfl) (I : ∀ c a w, Q (.panic c) (a.put D.dst v) w → Q (.panic c) a w := by exact fun _ _ _ h => h) : wpAnyH P md ops Q S (fuel + 1) listed a w :=
 avt i d hi M hs G H I (Or.inl ⟨N, hy⟩) J (by rw [F, K]; exact h)
theorem tkF (i : Nat) {d : Nat} {D : Oper} {v : Value} {A : Act} {L : Array Bool} {F : World → Prop} (E : S w) (h : wpAnyH P md ops Q S fuel L A w) (hF : ∀ v, S v → F v) (hi : ops[i]? = some D := by rfl) (O : D.dst = some d := by rfl)
 (hy : ∀ w, S w → F w → (execOp a.eval D).run P w = .ok (.value v) w := by intro v H G; clear H; (try dsimp only at G); go_simp; (try with_reducible rfl))
 (J : a.put (some d) v = A := by (try simp only [Act.put, lsT, lsZ, lsS]); rfl) (N : listed.setIfInBounds i true = L := by (try simp only [lsT, lsZ, lsS]); rfl)
 (hs : Region.noSelect ops = true := by kernel_rfl) (I : Region.free md ops listed i = true := by kernel_rfl) (K : (Region.ready md ops listed).contains i = true := by kernel_rfl)
 (U : Region.wanted D (yielded ops a.tmps) = true := by kernel_rfl) (M : ∀ c a w, Q (.panic c) (a.put D.dst v) w → Q (.panic c) a w := by exact fun _ _ _ h => h) : wpAnyH P md ops Q S (fuel + 1) listed a w :=
 avt i d hi O hs I K M (Or.inl ⟨U, fun w E => hy w E (hF w E)⟩) E (by rw [J, N]; exact h)
variable {k : Nat}
theorem tkU (i : Nat) {d : Nat} {D : Oper} {v : Value} {A : Act} {L : Array Bool} (K : S w) (h : aca P md ops Q S k fuel L A w) (hi : ops[i]? = some D := by rfl) (N : D.dst = some d := by rfl)
 (hy : ∀ w, S w → (execOp a.eval D).run P w = .ok (.value v) w := by intro v E; clear E; go_simp; (try with_reducible rfl))
 (G : a.put (some d) v = A := by (try simp only [Act.put, lsT, lsZ, lsS]); rfl) (M : listed.setIfInBounds i true = L := by (try simp only [lsT, lsZ, lsS]); rfl)
 (hs : Region.noSelect ops = true := by kernel_rfl) (F : Region.free md ops listed i = true := by kernel_rfl) (I : (Region.ready md ops listed).contains i = true := by kernel_rfl) (H : ((aof md ops i).contains k && !(i == k) && afz md ops listed i (aof md ops i)) = true := by kernel_rfl)
 (O : Region.wanted D (yielded ops a.tmps) = true := by kernel_rfl) (J : ∀ c a w, Q (.panic c) (a.put D.dst v) w → Q (.panic c) a w := by exact fun _ _ _ h => h) : aca P md ops Q S k (fuel + 1) listed a w :=
 baq i hi N hy K (by rw [G, M]; exact h) hs F I H O J
theorem tkG (i : Nat) {d : Nat} {D : Oper} {v : Value} {A : Act} {L : Array Bool} {F : World → Prop} (E : S w) (h : aca P md ops Q S k fuel L A w) (hF : ∀ v, S v → F v) (hi : ops[i]? = some D := by rfl) (U : D.dst = some d := by rfl)
 (hy : ∀ w, S w → F w → (execOp a.eval D).run P w = .ok (.value v) w := by intro v H G; clear H; (try dsimp only at G); go_simp; (try with_reducible rfl))
 (J : a.put (some d) v = A := by (try simp only [Act.put, lsT, lsZ, lsS]); rfl) (O : listed.setIfInBounds i true = L := by (try simp only [lsT, lsZ, lsS]); rfl)
 (hs : Region.noSelect ops = true := by kernel_rfl) (I : Region.free md ops listed i = true := by kernel_rfl) (M : (Region.ready md ops listed).contains i = true := by kernel_rfl) (K : ((aof md ops i).contains k && !(i == k) && afz md ops listed i (aof md ops i)) = true := by kernel_rfl)
 (W : Region.wanted D (yielded ops a.tmps) = true := by kernel_rfl) (N : ∀ c a w, Q (.panic c) (a.put D.dst v) w → Q (.panic c) a w := by exact fun _ _ _ h => h) : aca P md ops Q S k (fuel + 1) listed a w :=
 baq i hi U (fun w E => hy w E (hF w E)) E (by rw [J, O]; exact h) hs I M K W N
end
theorem asz : (prog.info? 9).map (fun i => (i.zero, i.size, i.bytes)) = some (some (.string ⟨#[]⟩), 1, 16) := by kernel_rfl
theorem am3 : ElemT prog 53 9 1 16 := ElemT.mk' underlying53 asz rfl (by omega)
theorem av2 : (prog.info? 56).map (fun i => (i.zero, i.size, i.bytes)) = some (some (.agg #[.int .u8 0, .int .u64 0, .string ⟨#[]⟩, .slice none 0 0, .slice none 0 0]), 5, 80) := by kernel_rfl
theorem aej : ElemT prog 54 56 5 80 := ElemT.mk' underlying54 av2 rfl (by omega)
theorem aaq {A : Type} {enc : A → List Value} {m bytes base : Nat} {P : Program} {w : World} {ops : Array Oper} {E : List Oper} {o : Oper} {a : Act} {Q : Exit → Act → World → Prop}
 (O : o.guard = none) (s x : Operand) (t e : TypeId) (W : o.op = .call { callee := .builtin .append, args := #[s, x], argTypes := #[t, t] })
 (D : ElemT P t e m bytes) (Z : ∀ x, (enc x).length = m) 
 (v : Value) (L : List A) (hs : a.eval s = v) (J : Own base e m enc w v L)
 (g F : Nat) (y : A) (K : ∀ u ∈ enc y, u.oneCell' = true) (X : a.eval x = .slice (some ⟨g, 0, none⟩) 1 F) (hy : ∀ j u, (enc y)[j]? = some u → w.cell? ⟨g, j, none⟩ = some u)
 (G : (L.length + 1) * bytes ≤ 140737488355328) (M : L.length + 1 ≤ maxLen) (H : base ≤ w.heap.size)
 (h : ∀ g' cap' w', Own base e m enc w' (.slice (some ⟨g', 0, none⟩) (L.length + 1) cap') (L ++ [y]) → w.grownBy w' v.ownBlock → (v.ownBlock = some g' ∨ g' = w.heap.size) →
  wpList P ops Q E (a.put o.dst (.slice (some ⟨g', 0, none⟩) (L.length + 1) cap')) w') :
 wpList P ops Q (o :: E) a w := by
 obtain ⟨i, z, hi, Y, I, U, N⟩ := D.ex
 refine wpList_append_own_at w O s x t W base e i z m bytes D.ht hi Y I U N D.pos v L.length (L.flatMap enc) hs J ⟨g, 0, none⟩ 1 F (enc y) X (by rw [Z]; omega) ?_ K M G H ?_
 ·exact ai0
 ·exact aiz
def VT.zero : VT := .mk 0 0 ⟨#[]⟩ (.slice none 0 0) (.slice none 0 0) [] []
theorem am4 {G E : Type} {b b' e F m M : Nat} {enc : G → List Value} {I : E → List Value} {w : World} {v H : Value} {L : List G} {K : List E} (h : Own b e m enc w v L) (O : Own b' F M I w H K) (J : e ≠ F) {i : Nat} (hi : v.ownBlock = some i) (D : H.ownBlock = some i) : False := by
 rcases h.2 with ⟨rfl, _⟩ | ⟨g, X, Z, rfl, z, N, _⟩
 ·simp [Value.ownBlock] at hi
 ·rcases O.2 with ⟨rfl, _⟩ | ⟨g', U, W, rfl, Y, A, _⟩
  ·simp [Value.ownBlock] at D
  ·simp only [Value.ownBlock, Option.map_some, jy] at hi D
   subst hi D; rw [N] at A; simp only [jy, Obj.cells.injEq] at A; exact J A.2.1
def MP (B : Nat) (kv lv : Value) (i : Nat) : Prop := B ≤ i ∧ kv.ownBlock ≠ some i ∧ lv.ownBlock ≠ some i
structure MSt (w0 : World) (qb rb vb xb : Nat) (k : Int) (w : World) (left : Int) (b : List UInt8) (bad : Bool) (kv lv : Value) (ks : List ByteArray) (L : List VT) : Prop where
 pr : PR w qb rb vb left b bad
 x : Blk w xb [.int .u8 k, .int .u64 0, .string ⟨#[]⟩, kv, lv]
 ko : Own w0.heap.size 9 1 abv w kv ks
 lo : Own w0.heap.size 56 5 ac6 w lv L
 rd : ∀ x ∈ L, Rd (MP w0.heap.size kv lv) w x
 up : Upd (aop qb vb xb) w0 w
 lt : qb < xb
 xl : xb < w0.heap.size
section
variable {w0 w w' : World} {qb rb vb xb : Nat} {k left : Int} {b : List UInt8} {bad : Bool} {kv lv : Value} {ks : List ByteArray} {L : List VT}
theorem MSt.moved {S : Nat → Prop} {E : Int} {b' : List UInt8} {F : Bool} (h : MSt w0 qb rb vb xb k w left b bad kv lv ks L) (p : PR w' qb rb vb E b' F) (A : Upd S w w') (D : ∀ i, S i → i = qb ∨ i = vb) : MSt w0 qb rb vb xb k w' E b' F kv lv ks L := by
 have H := h.pr.vq; have I := h.lt; have J := h.xl
 have hs : ∀ i, w0.heap.size ≤ i → ¬ S i := fun i hi e => by rcases D i e with e | e <;> omega
 exact ⟨p, h.x.upd A (fun e => by rcases D _ e with e | e <;> omega), h.ko.upd A (fun i hi => hs i (h.ko.ge hi)), h.lo.upd A (fun i hi => hs i (h.lo.ge hi)), fun x G => (h.rd x G).upd A (fun i hi => hs i hi.1),
  h.up.trans A (fun i e _ => by rcases D _ e with e | e; exact .inl e; exact .inr (.inl e)), h.lt, h.xl⟩
theorem MSt.pure (h : MSt w0 qb rb vb xb k w left b bad kv lv ks L) (A : Below w.heap.size w w') : MSt w0 qb rb vb xb k w' left b bad kv lv ks L :=
 ⟨h.pr.pure A, h.x.pure A, h.ko.pure A, h.lo.pure A, fun x D => (h.rd x D).pure A, h.up.trans (Upd.of_below (S := fun _ => False) A) (fun _ e _ => e.elim), h.lt, h.xl⟩
theorem abn (w : World) : Below w.heap.size w w.drew := (qz _ w).drew
theorem MSt.alloc (h : MSt w0 qb rb vb xb k w left b bad kv lv ks L) (o : Obj) : MSt w0 qb rb vb xb k (w.alloc o) left b bad kv lv ks L := h.pure ((qz _ _).alloc (qj _) _)
theorem MSt.drew (h : MSt w0 qb rb vb xb k w left b bad kv lv ks L) : MSt w0 qb rb vb xb k w.drew left b bad kv lv ks L := h.pure (abn w)
theorem ai5 {P : Prop} (h : P := by
 have r := (h.rd x hx).weaken (Q := fun i => MP w0.heap.size kv lv i ∧ g ≠ i) (fun i hi hm => ⟨hm, fun e => by
  rcases hf with hf | hf
  ·exact hm.2.1 (by rw [hf, e])
  ·omega⟩)
 have r2 := (r.upd hu (fun i hi e => hi.1.2.1 e)).upd hs (fun i hi e => by have := hi.1.1; omega)
 exact r2.weaken (fun i _ hi => ⟨hi.1.1, fun e => hi.2 (by simpa [Value.ownBlock] using e), hi.1.2.2⟩)) : P := h
theorem MSt.key {key : ByteArray} {g A : Nat} (h : MSt w0 qb rb vb xb k w left b bad kv lv ks L) (D : Own w0.heap.size 9 1 abv w' (.slice (some ⟨g, 0, none⟩) (ks.length + 1) A) (ks ++ [key])) (E : w.grownBy w' kv.ownBlock) (hf : kv.ownBlock = some g ∨ g = w.heap.size) :
 Blk w' xb [.int .u8 k, .int .u64 0, .string ⟨#[]⟩, kv, lv] ∧ MSt w0 qb rb vb xb k (w'.setCell ⟨xb, 3, none⟩ (.slice (some ⟨g, 0, none⟩) (ks.length + 1) A)) left b bad (.slice (some ⟨g, 0, none⟩) (ks.length + 1) A) lv (ks ++ [key]) L := by
 have F := h.pr.vq; have G := h.lt; have H := h.xl
 have hu : Upd (fun i => kv.ownBlock = some i) w w' := Upd.grown E (fun i e => e)
 have hs := Upd.set (S := fun i => i = xb) (w := w') (p := ⟨xb, 3, none⟩) rfl (.slice (some ⟨g, 0, none⟩) (ks.length + 1) A)
 have hx := h.x.upd hu (fun e => by have := h.ko.ge e; omega)
 refine ⟨hx, (h.pr.above hu (fun i e => by have := h.ko.ge e; omega)).above hs (fun i e => by omega), hx.set 3 _, D.upd hs (fun i hi e => by have := D.ge hi; omega),
  (h.lo.upd hu (fun i hi e => am4 h.lo h.ko (by decide) hi e)).upd hs (fun i hi e => by have := h.lo.ge hi; omega), fun x hx => ?_, ?_, h.lt, h.xl⟩
 ·exact ai5
 ·exact (h.up.trans hu (fun i e hi => by have := h.ko.ge e; omega)).trans hs (fun i e hi => .inr (.inr e))
abbrev set5r (w : World) (g j : Nat) (v0 v1 v2 v3 v4 : Value) : World := ((((w.setCell ⟨g, j * 5, none⟩ v0).setCell ⟨g, j * 5 + 1, none⟩ v1).setCell ⟨g, j * 5 + 2, none⟩ v2).setCell ⟨g, j * 5 + 3, none⟩ v3).setCell ⟨g, j * 5 + 4, none⟩ v4
theorem Upd.row5 (w : World) (g j : Nat) (D F E G A : Value) : Upd (fun i => i = g) w (set5r w g j D F E G A) := by
 have s := fun (u : World) (o : Nat) (v : Value) => Upd.set (S := fun i => i = g) (w := u) (p := ⟨g, o, none⟩) rfl v
 exact af7
theorem Own.row5 {base : Nat} {e : TypeId} {w : World} {L : List VT} {g n A : Nat} (h : Own base e 5 ac6 w (.slice (some ⟨g, 0, none⟩) n A) L) (i : Nat) (hi : i < L.length) (t : VT) :
 Own base e 5 ac6 (set5r w g i (.int .u8 t.k) (.int .u64 t.n) (.string t.s) t.kv t.lv) (.slice (some ⟨g, 0, none⟩) n A) (L.set i t) := by
 obtain ⟨z, H⟩ := qx (L[i])
 have G := h.set aak i hi 0 (.int .u8 t.k) (.mk t.k z.n z.s z.kv z.lv [] []) (by omega) (by rw [H]; rfl)
 have I := G.set aak i (by simpa using hi) 1 (.int .u64 t.n) (.mk t.k t.n z.s z.kv z.lv [] []) (by omega) (by rw [List.getElem_set_self]; rfl)
 have F := I.set aak i (by simpa using hi) 2 (.string t.s) (.mk t.k t.n t.s z.kv z.lv [] []) (by omega) (by rw [List.getElem_set_self]; rfl)
 have E := F.set aak i (by simpa using hi) 3 t.kv (.mk t.k t.n t.s t.kv z.lv [] []) (by omega) (by rw [List.getElem_set_self]; rfl)
 have D := E.set aak i (by simpa using hi) 4 t.lv t (by omega) (by rw [List.getElem_set_self]; rfl)
 simp only [List.set_set] at D
 exact D
theorem ap5 {A : Type} (L : List A) (z t : A) : (L ++ [z]).set L.length t = L ++ [t] := by
 rw [List.set_append_right _ _ (qj _), Nat.sub_self]; rfl
theorem ahg {P : Prop} (h : P := by
 have r := hx.weaken (Q := fun i => MP w0.heap.size kv lv i ∧ g ≠ i) (fun i hi hm => ⟨hm, fun e => by
  rcases hf with hf | hf
  ·exact hm.2.2 (by rw [hf, e])
  ·omega⟩)
 have r2 := r.upd hu (fun i hi e => by
  rcases e with e | e | e
  ·exact hi.1.2.2 e
  ·exact hi.2 e.symm
  ·have := hi.1.1; omega)
 exact r2.weaken (fun i _ hi => ⟨hi.1.1, hi.1.2.1, fun e => hi.2 (by simpa [Value.ownBlock] using e)⟩)) : P := h
theorem af8 {P : Prop} (h : P := by
 rcases e with e | e | e
 ·exact am4 h.ko h.lo (by decide) hi e
 ·subst e
  rcases hf with hf | hf
  ·exact am4 h.ko h.lo (by decide) hi hf
  ·have := h.ko.lt hi; omega
 ·have := h.ko.ge hi; omega) : P := h
theorem af9 {P : Prop} (h : P := by
 rcases List.mem_append.1 hx with hx | hx
 ·exact hrd x (h.rd x hx)
 ·rw [jc.1 hx]; exact hrd t ht) : P := h
theorem MSt.elemW {g A : Nat} {t : VT} {wf : World} (h : MSt w0 qb rb vb xb k w left b bad kv lv ks L) (E : w0.heap.size ≤ g) (hf : lv.ownBlock = some g ∨ g = w.heap.size) (ht : Rd (MP w0.heap.size kv lv) w t)
 (hx : Blk wf xb [.int .u8 k, .int .u64 0, .string ⟨#[]⟩, kv, .slice (some ⟨g, 0, none⟩) (L.length + 1) A]) (D : Own w0.heap.size 56 5 ac6 wf (.slice (some ⟨g, 0, none⟩) (L.length + 1) A) (L ++ [t])) (hu : Upd (fun i => lv.ownBlock = some i ∨ i = g ∨ i = xb) w wf) :
 MSt w0 qb rb vb xb k wf left b bad kv (.slice (some ⟨g, 0, none⟩) (L.length + 1) A) ks (L ++ [t]) := by
 have G := h.pr.vq; have H := h.lt; have F := h.xl
 have hrd : ∀ x, Rd (MP w0.heap.size kv lv) w x → Rd (MP w0.heap.size kv (.slice (some ⟨g, 0, none⟩) (L.length + 1) A)) wf x := fun x hx => by
  exact ahg
 refine ⟨h.pr.above hu (fun i e => by rcases e with e | e | e; (have := h.lo.ge e; omega); omega; omega), hx, h.ko.upd hu (fun i hi e => ?_), D, fun x hx => ?_, h.up.trans hu (fun i e hi => by rcases e with e | e | e; (have := h.lo.ge e; omega); omega; exact .inr (.inr e)), h.lt, h.xl⟩
 ·exact af8
 ·exact af9
theorem ai6 {P : Prop} (h : P := by
 have hgb : w0.heap.size ≤ g := hO.ge rfl
 have hu : Upd (fun i => lv.ownBlock = some i ∨ i = g ∨ i = xb) w w' := Upd.grown hg (fun i e => .inl e)
 have hr := Upd.row5 w' g L.length (.int .u8 t.k) (.int .u64 t.n) (.string t.s) t.kv t.lv
 have hs := Upd.set (S := fun i => i = xb) (w := set5r w' g L.length (.int .u8 t.k) (.int .u64 t.n) (.string t.s) t.kv t.lv) (p := ⟨xb, 4, none⟩) rfl (.slice (some ⟨g, 0, none⟩) (L.length + 1) cap)
 have hx : Blk w' xb [.int .u8 k, .int .u64 0, .string ⟨#[]⟩, kv, lv] := h.x.upd (Upd.grown (S := fun i => lv.ownBlock = some i) hg (fun i e => e)) (fun e => by have := h.lo.ge e; omega)
 have hx2 := hx.upd hr (fun e => by omega)
 have hO2 := hO.row5 L.length (by simp) t
 rw [ap5] at hO2
 exact ⟨hx, hx2, h.elemW hgb hf ht (hx2.set 4 _) (hO2.upd hs (fun i hi e => by have := hO2.ge hi; omega)) ((hu.trans hr (fun i e _ => .inr (.inl e))).trans hs (fun i e _ => .inr (.inr e)))⟩) : P := h
theorem MSt.elem {g cap : Nat} {t : VT} (h : MSt w0 qb rb vb xb k w left b bad kv lv ks L) (hO : Own w0.heap.size 56 5 ac6 w' (.slice (some ⟨g, 0, none⟩) (L.length + 1) cap) (L ++ [VT.zero])) (hg : w.grownBy w' lv.ownBlock) (hf : lv.ownBlock = some g ∨ g = w.heap.size)
 (ht : Rd (MP w0.heap.size kv lv) w t) :
 Blk w' xb [.int .u8 k, .int .u64 0, .string ⟨#[]⟩, kv, lv] ∧ Blk (set5r w' g L.length (.int .u8 t.k) (.int .u64 t.n) (.string t.s) t.kv t.lv) xb [.int .u8 k, .int .u64 0, .string ⟨#[]⟩, kv, lv] ∧
 MSt w0 qb rb vb xb k ((set5r w' g L.length (.int .u8 t.k) (.int .u64 t.n) (.string t.s) t.kv t.lv).setCell ⟨xb, 4, none⟩ (.slice (some ⟨g, 0, none⟩) (L.length + 1) cap)) left b bad kv (.slice (some ⟨g, 0, none⟩) (L.length + 1) cap) ks (L ++ [t]) := by
 have A := h.pr.vq; have D := h.lt; have E := h.xl
 exact ai6
theorem ai7 {P : Prop} (h : P := by
 have hgb : w0.heap.size ≤ g := hO.ge rfl
 have hu : Upd (fun i => lv.ownBlock = some i ∨ i = g ∨ i = xb) w w' := Upd.grown hg (fun i e => .inl e)
 have hs := Upd.set (S := fun i => i = xb) (w := w') (p := ⟨xb, 4, none⟩) rfl (.slice (some ⟨g, 0, none⟩) (L.length + 1) cap)
 have hr := Upd.row5 (w'.setCell ⟨xb, 4, none⟩ (.slice (some ⟨g, 0, none⟩) (L.length + 1) cap)) g L.length (.int .u8 t.k) (.int .u64 t.n) (.string t.s) t.kv t.lv
 have hx : Blk w' xb [.int .u8 k, .int .u64 0, .string ⟨#[]⟩, kv, lv] := h.x.upd (Upd.grown (S := fun i => lv.ownBlock = some i) hg (fun i e => e)) (fun e => by have := h.lo.ge e; omega)
 have hOs := hO.upd hs (fun i hi e => by have := hO.ge hi; omega)
 have hO2 := hOs.row5 L.length (by simp) t
 rw [ap5] at hO2
 exact ⟨hOs, h.elemW hgb hf ht ((hx.set 4 _).upd hr (fun e => by omega)) hO2 ((hu.trans hs (fun i e _ => .inr (.inr e))).trans hr (fun i e _ => .inr (.inl e)))⟩) : P := h
theorem MSt.elem2 {g cap : Nat} {t : VT} (h : MSt w0 qb rb vb xb k w left b bad kv lv ks L) (hO : Own w0.heap.size 56 5 ac6 w' (.slice (some ⟨g, 0, none⟩) (L.length + 1) cap) (L ++ [VT.zero])) (hg : w.grownBy w' lv.ownBlock) (hf : lv.ownBlock = some g ∨ g = w.heap.size)
 (ht : Rd (MP w0.heap.size kv lv) w t) :
 Own w0.heap.size 56 5 ac6 (w'.setCell ⟨xb, 4, none⟩ (.slice (some ⟨g, 0, none⟩) (L.length + 1) cap)) (.slice (some ⟨g, 0, none⟩) (L.length + 1) cap) (L ++ [VT.zero]) ∧
 MSt w0 qb rb vb xb k (set5r (w'.setCell ⟨xb, 4, none⟩ (.slice (some ⟨g, 0, none⟩) (L.length + 1) cap)) g L.length (.int .u8 t.k) (.int .u64 t.n) (.string t.s) t.kv t.lv) left b bad kv (.slice (some ⟨g, 0, none⟩) (L.length + 1) cap) ks (L ++ [t]) := by
 have A := h.pr.vq; have D := h.lt; have E := h.xl
 exact ai7
theorem MSt.start (p : PR w qb rb vb left b bad) (x : Blk w xb [.int .u8 k, .int .u64 0, .string ⟨#[]⟩, .slice none 0 0, .slice none 0 0]) (A : Upd (aop qb vb xb) w0 w) (E : qb < xb) (D : xb < w0.heap.size) : MSt w0 qb rb vb xb k w left b bad (.slice none 0 0) (.slice none 0 0) [] [] :=
 ⟨p, x, Own.nil, Own.nil, fun x F => jp F (by simp), A, E, D⟩
end
def asa (ks : List ByteArray) (l : List V) (o : Option (List ByteArray × List V × Int × List UInt8)) : Option (List ByteArray × List V × Int × List UInt8) := o.map fun z => (ks ++ z.1, l ++ z.2.1, z.2.2.1, z.2.2.2)
theorem av3 (o : Option (List ByteArray × List V × Int × List UInt8)) : asa [] [] o = o := by cases o <;> rfl
section
variable {f : Int → List UInt8 → Option (V × Int × List UInt8)} {q : Nat} {left left1 : Int} {b b1 b2 : List UInt8} {ks : List ByteArray} {l : List V} {key : ByteArray} {x : V}
theorem av4 (A : gT 1 255 b = some (key, b1)) (D : f left b1 = some (x, left1, b2)) : asa ks l (abk f true (q + 1) left b) = asa (ks ++ [key]) (l ++ [x]) (abk f true q left1 b2) := by
 conv => lhs; unfold abk
 rw [qw rfl, A, Option.bind_some]; dsimp only; rw [D, Option.bind_some]; dsimp only
 cases abk f true q left1 b2 <;> simp [asa]
theorem aq5 (A : f left b = some (x, left1, b2)) : asa ks l (abk f false (q + 1) left b) = asa ks (l ++ [x]) (abk f false q left1 b2) := by
 conv => lhs; unfold abk
 rw [qk (by simp), Option.bind_some]; dsimp only; rw [A, Option.bind_some]; dsimp only
 cases abk f false q left1 b2 <;> simp [asa]
theorem av5 {m : Bool} : asa ks l (abk f m 0 left b) = some (ks, l, left, b) := by unfold abk asa; simp
end
def bdx (rb xb : Nat) (k : Nat) : Prop := k = rb ∨ k = xb
theorem DrS.lt {w : World} {rb : Nat} {b : List UInt8} {bad : Bool} (h : DrS w rb b bad) : rb < w.heap.size := by
 obtain ⟨bv, A, _⟩ := h; exact A.lt
theorem DrS.above {S : Nat → Prop} {w w' : World} {rb : Nat} {b : List UInt8} {bad : Bool} (h : DrS w rb b bad) (hu : Upd S w w') (hS : ∀ k, S k → rb < k) : DrS w' rb b bad := by
 exact alb
structure DSt (w0 : World) (rb xb : Nat) (k : Int) (w : World) (b : List UInt8) (bad : Bool) (kv lv : Value) (ks : List ByteArray) (L : List VT) : Prop where
 pr : DrS w rb b bad
 x : Blk w xb [.int .u8 k, .int .u64 0, .string ⟨#[]⟩, kv, lv]
 ko : Own w0.heap.size 9 1 abv w kv ks
 lo : Own w0.heap.size 56 5 ac6 w lv L
 rd : ∀ x ∈ L, Rd (MP w0.heap.size kv lv) w x
 up : Upd (bdx rb xb) w0 w
 lt : rb < xb
 xl : xb < w0.heap.size
section
variable {w0 w w' : World} {rb xb : Nat} {k : Int} {b : List UInt8} {bad : Bool} {kv lv : Value} {ks : List ByteArray} {L : List VT}
theorem DSt.moved {S : Nat → Prop} {b' : List UInt8} {E : Bool} (h : DSt w0 rb xb k w b bad kv lv ks L) (p : DrS w' rb b' E) (A : Upd S w w') (D : ∀ i, S i → i = rb) : DSt w0 rb xb k w' b' E kv lv ks L := by
 have G := h.lt; have H := h.xl
 have hs : ∀ i, w0.heap.size ≤ i → ¬ S i := fun i hi e => by have := D i e; omega
 exact ⟨p, h.x.upd A (fun e => by have := D _ e; omega), h.ko.upd A (fun i hi => hs i (h.ko.ge hi)), h.lo.upd A (fun i hi => hs i (h.lo.ge hi)), fun x F => (h.rd x F).upd A (fun i hi => hs i hi.1),
  h.up.trans A (fun i e _ => .inl (D _ e)), h.lt, h.xl⟩
theorem DSt.pure (h : DSt w0 rb xb k w b bad kv lv ks L) (A : Below w.heap.size w w') : DSt w0 rb xb k w' b bad kv lv ks L :=
 ⟨h.pr.pure A, h.x.pure A, h.ko.pure A, h.lo.pure A, fun x D => (h.rd x D).pure A, h.up.trans (Upd.of_below (S := fun _ => False) A) (fun _ e _ => e.elim), h.lt, h.xl⟩
theorem DSt.alloc (h : DSt w0 rb xb k w b bad kv lv ks L) (o : Obj) : DSt w0 rb xb k (w.alloc o) b bad kv lv ks L := h.pure ((qz _ _).alloc (qj _) _)
theorem DSt.drew (h : DSt w0 rb xb k w b bad kv lv ks L) : DSt w0 rb xb k w.drew b bad kv lv ks L := h.pure (abn w)
theorem DSt.key {key : ByteArray} {g A : Nat} (h : DSt w0 rb xb k w b bad kv lv ks L) (D : Own w0.heap.size 9 1 abv w' (.slice (some ⟨g, 0, none⟩) (ks.length + 1) A) (ks ++ [key])) (E : w.grownBy w' kv.ownBlock) (hf : kv.ownBlock = some g ∨ g = w.heap.size) :
 Blk w' xb [.int .u8 k, .int .u64 0, .string ⟨#[]⟩, kv, lv] ∧ DSt w0 rb xb k (w'.setCell ⟨xb, 3, none⟩ (.slice (some ⟨g, 0, none⟩) (ks.length + 1) A)) b bad (.slice (some ⟨g, 0, none⟩) (ks.length + 1) A) lv (ks ++ [key]) L := by
 have F := h.lt; have G := h.xl
 have hu : Upd (fun i => kv.ownBlock = some i) w w' := Upd.grown E (fun i e => e)
 have hs := Upd.set (S := fun i => i = xb) (w := w') (p := ⟨xb, 3, none⟩) rfl (.slice (some ⟨g, 0, none⟩) (ks.length + 1) A)
 have hx := h.x.upd hu (fun e => by have := h.ko.ge e; omega)
 refine ⟨hx, (h.pr.above hu (fun i e => by have := h.ko.ge e; omega)).above hs (fun i e => by omega), hx.set 3 _, D.upd hs (fun i hi e => by have := D.ge hi; omega),
  (h.lo.upd hu (fun i hi e => am4 h.lo h.ko (by decide) hi e)).upd hs (fun i hi e => by have := h.lo.ge hi; omega), fun x hx => ?_, ?_, h.lt, h.xl⟩
 ·exact ai5
 ·exact (h.up.trans hu (fun i e hi => by have := h.ko.ge e; omega)).trans hs (fun i e hi => .inr e)
theorem DSt.elemW {g A : Nat} {t : VT} {wf : World} (h : DSt w0 rb xb k w b bad kv lv ks L) (E : w0.heap.size ≤ g) (hf : lv.ownBlock = some g ∨ g = w.heap.size) (ht : Rd (MP w0.heap.size kv lv) w t)
 (hx : Blk wf xb [.int .u8 k, .int .u64 0, .string ⟨#[]⟩, kv, .slice (some ⟨g, 0, none⟩) (L.length + 1) A]) (D : Own w0.heap.size 56 5 ac6 wf (.slice (some ⟨g, 0, none⟩) (L.length + 1) A) (L ++ [t])) (hu : Upd (fun i => lv.ownBlock = some i ∨ i = g ∨ i = xb) w wf) :
 DSt w0 rb xb k wf b bad kv (.slice (some ⟨g, 0, none⟩) (L.length + 1) A) ks (L ++ [t]) := by
 have G := h.lt; have F := h.xl
 have hrd : ∀ x, Rd (MP w0.heap.size kv lv) w x → Rd (MP w0.heap.size kv (.slice (some ⟨g, 0, none⟩) (L.length + 1) A)) wf x := fun x hx => by
  exact ahg
 refine ⟨h.pr.above hu (fun i e => by rcases e with e | e | e; (have := h.lo.ge e; omega); omega; omega), hx, h.ko.upd hu (fun i hi e => ?_), D, fun x hx => ?_, h.up.trans hu (fun i e hi => by rcases e with e | e | e; (have := h.lo.ge e; omega); omega; exact .inr e), h.lt, h.xl⟩
 ·exact af8
 ·exact af9
theorem DSt.elem {g cap : Nat} {t : VT} (h : DSt w0 rb xb k w b bad kv lv ks L) (hO : Own w0.heap.size 56 5 ac6 w' (.slice (some ⟨g, 0, none⟩) (L.length + 1) cap) (L ++ [VT.zero])) (hg : w.grownBy w' lv.ownBlock) (hf : lv.ownBlock = some g ∨ g = w.heap.size)
 (ht : Rd (MP w0.heap.size kv lv) w t) :
 Blk w' xb [.int .u8 k, .int .u64 0, .string ⟨#[]⟩, kv, lv] ∧ Blk (set5r w' g L.length (.int .u8 t.k) (.int .u64 t.n) (.string t.s) t.kv t.lv) xb [.int .u8 k, .int .u64 0, .string ⟨#[]⟩, kv, lv] ∧
 DSt w0 rb xb k ((set5r w' g L.length (.int .u8 t.k) (.int .u64 t.n) (.string t.s) t.kv t.lv).setCell ⟨xb, 4, none⟩ (.slice (some ⟨g, 0, none⟩) (L.length + 1) cap)) b bad kv (.slice (some ⟨g, 0, none⟩) (L.length + 1) cap) ks (L ++ [t]) := by
 have A := h.lt; have D := h.xl
 exact ai6
theorem DSt.elem2 {g cap : Nat} {t : VT} (h : DSt w0 rb xb k w b bad kv lv ks L) (hO : Own w0.heap.size 56 5 ac6 w' (.slice (some ⟨g, 0, none⟩) (L.length + 1) cap) (L ++ [VT.zero])) (hg : w.grownBy w' lv.ownBlock) (hf : lv.ownBlock = some g ∨ g = w.heap.size)
 (ht : Rd (MP w0.heap.size kv lv) w t) :
 Own w0.heap.size 56 5 ac6 (w'.setCell ⟨xb, 4, none⟩ (.slice (some ⟨g, 0, none⟩) (L.length + 1) cap)) (.slice (some ⟨g, 0, none⟩) (L.length + 1) cap) (L ++ [VT.zero]) ∧
 DSt w0 rb xb k (set5r (w'.setCell ⟨xb, 4, none⟩ (.slice (some ⟨g, 0, none⟩) (L.length + 1) cap)) g L.length (.int .u8 t.k) (.int .u64 t.n) (.string t.s) t.kv t.lv) b bad kv (.slice (some ⟨g, 0, none⟩) (L.length + 1) cap) ks (L ++ [t]) := by
 have A := h.lt; have D := h.xl
 exact ai7
theorem DSt.start (p : DrS w rb b bad) (x : Blk w xb [.int .u8 k, .int .u64 0, .string ⟨#[]⟩, .slice none 0 0, .slice none 0 0]) (A : Upd (bdx rb xb) w0 w) (E : rb < xb) (D : xb < w0.heap.size) : DSt w0 rb xb k w b bad (.slice none 0 0) (.slice none 0 0) [] [] :=
 ⟨p, x, Own.nil, Own.nil, fun x F => jp F (by simp), A, E, D⟩
end
theorem DSt.tree {w0 w w' : World} {rb xb : Nat} {k : Int} {b : List UInt8} {bad : Bool} {kv lv : Value} {ks : List ByteArray} {L : List VT} {t : VT} (h : DSt w0 rb xb k w b bad kv lv ks L) (A : Rd (fun i => w.heap.size ≤ i) w' t) : Rd (MP w0.heap.size kv lv) w' t :=
 A.weaken (fun i _ hi => ⟨jk h.up.size hi, fun e => by have := h.ko.lt e; omega, fun e => by have := h.lo.lt e; omega⟩)
theorem DSt.app {w0 w w' : World} {rb xb g A : Nat} {k : Int} {b : List UInt8} {bad : Bool} {kv lv : Value} {ks : List ByteArray} {L : List VT} {t : VT} (h : DSt w0 rb xb k w b bad kv lv ks L) (D : Own w0.heap.size 56 5 ac6 w' (.slice (some ⟨g, 0, none⟩) (L.length + 1) A) (L ++ [t])) (E : w.grownBy w' lv.ownBlock) (H : lv.ownBlock = some g ∨ g = w.heap.size)
 (J : Rd (MP w0.heap.size kv lv) w t) :
 Blk w' xb [.int .u8 k, .int .u64 0, .string ⟨#[]⟩, kv, lv] ∧ DSt w0 rb xb k (w'.setCell ⟨xb, 4, none⟩ (.slice (some ⟨g, 0, none⟩) (L.length + 1) A)) b bad kv (.slice (some ⟨g, 0, none⟩) (L.length + 1) A) ks (L ++ [t]) := by
 have M := h.lt; have K := h.xl
 have G : w0.heap.size ≤ g := D.ge rfl
 have I : Upd (fun i => lv.ownBlock = some i ∨ i = g ∨ i = xb) w w' := Upd.grown E (fun i e => .inl e)
 have hs := Upd.set (S := fun i => i = xb) (w := w') (p := ⟨xb, 4, none⟩) rfl (.slice (some ⟨g, 0, none⟩) (L.length + 1) A)
 have F : Blk w' xb [.int .u8 k, .int .u64 0, .string ⟨#[]⟩, kv, lv] := h.x.upd (Upd.grown (S := fun i => lv.ownBlock = some i) E (fun i e => e)) (fun e => by have := h.lo.ge e; omega)
 exact ⟨F, h.elemW G H J (F.set 4 _) (D.upd hs (fun i hi e => by have := D.ge hi; omega)) (I.trans hs (fun i e _ => .inr (.inr e)))⟩
theorem DrS.fresh5 {w : World} {rb B : Nat} {b : List UInt8} {bad : Bool} (h : DrS w rb b bad) (H : rb < B) (D E G F A : Value) : DrS (set5 w B D E G F A) rb b bad := h.above (Upd.at5 w B D E G F A) (fun k e => by omega)
theorem DSt.whole {w0 w w' : World} {rb xb : Nat} {k : Int} {b : List UInt8} {bad : Bool} {kv lv : Value} {ks : List ByteArray} {L : List VT} {S : Nat → Prop} (h : DSt w0 rb xb k w b bad kv lv ks L) (A : Upd S w w') (D : ∀ i, S i → i < w0.heap.size) (G : 0 ≤ k) (I : k < 256) : Rd (fun i => w0.heap.size ≤ i) w' (.mk k 0 ⟨#[]⟩ kv lv ks L) :=
 .mk ((h.ko.upd A (fun i hi e => by have E := h.ko.ge hi; have F := D i e; omega)).slc ac7) (fun _ i hi => h.ko.ge hi) ((h.lo.upd A (fun i hi e => by have E := h.lo.ge hi; have F := D i e; omega)).slc aak) (fun _ i hi => h.lo.ge hi)
  (fun x H => ((h.rd x H).upd A (fun i hi e => by have E := hi.1; have F := D i e; omega)).weaken (fun i _ hi => hi.1)) (by show (0 : Int) ≤ 0; omega) (by show (0 : Int) < 18446744073709551616; omega) G I
theorem MSt.tree {w0 w w' : World} {qb rb vb xb : Nat} {k left : Int} {b : List UInt8} {bad : Bool} {kv lv : Value} {ks : List ByteArray} {L : List VT} {t : VT} (h : MSt w0 qb rb vb xb k w left b bad kv lv ks L) (A : Rd (fun i => w.heap.size ≤ i) w' t) : Rd (MP w0.heap.size kv lv) w' t :=
 A.weaken (fun i _ hi => ⟨jk h.up.size hi, fun e => by have := h.ko.lt e; omega, fun e => by have := h.lo.lt e; omega⟩)
def av6 (w0 : World) (qb rb vb xb : Nat) (k left : Int) (b : List UInt8) (bad : Bool) (lv : Value) (ks : List ByteArray) (L : List VT) (w : World) : Prop := ∃ kv : Value, MSt w0 qb rb vb xb k w left b bad kv lv ks L
open Go Tryz
def ctA (s : ByteArray) (pos : Nat) (A : Nat → Nat) (k lo hi : Nat) : Bool := decide (pos + k < s.size) && (decide (lo ≤ A k) && decide (A k ≤ hi))
theorem as0 (s : ByteArray) (k : Nat) (A : k < s.size) : ∃ (h : k < s.data.toList.length), s.data.toList[k].toNat = (s.get! k).toNat := by
 refine ⟨by rw [acj]; exact A, ?_⟩
 have : s.get! k = s.data[k]! := rfl
 rw [this, getElem!_pos s.data k A]
 rw [Array.getElem_toList]
theorem bbb (s : ByteArray) (D : Nat) (A : Nat → Nat) (G : ∀ k, A k = (s.get! (D + k)).toNat) (k lo hi : Nat) : ctB (s.data.toList.drop (D + 1)) k lo hi = ctA s D A (k + 1) lo hi := by
 unfold ctB ctA
 rw [List.getElem?_drop]
 by_cases E : D + (k + 1) < s.size
 ·obtain ⟨F, H⟩ := as0 s _ E
  rw [show D + 1 + k = D + (k + 1) by omega, List.getElem?_eq_getElem F]; simp only [H, G, E, decide_true, Bool.true_and]
 ·rw [List.getElem?_eq_none (by rw [acj]; omega)]
  simp [E]
theorem bbc (s : ByteArray) (D : Nat) (h : D < s.size) (A : Nat → Nat) (E : ∀ k, A k = (s.get! (D + k)).toNat) :
 u8n (s.data.toList.drop D) =
  (if A 0 < 128 then 1
   else if 194 ≤ A 0 ∧ A 0 ≤ 223 then (if ctA s D A 1 128 191 then 2 else 0)
   else if 224 ≤ A 0 ∧ A 0 ≤ 239 then (if ctA s D A 1 (if A 0 = 224 then 160 else 128) (if A 0 = 237 then 159 else 191) && ctA s D A 2 128 191 then 3 else 0)
   else if 240 ≤ A 0 ∧ A 0 ≤ 244 then (if ctA s D A 1 (if A 0 = 240 then 144 else 128) (if A 0 = 244 then 143 else 191) && ctA s D A 2 128 191 && ctA s D A 3 128 191 then 4 else 0)
   else 0) := by
 obtain ⟨I, G⟩ := as0 s D h
 have H : s.data.toList.drop D = s.data.toList[D] :: s.data.toList.drop (D + 1) := List.drop_eq_getElem_cons _
 rw [H]
 have F : s.data.toList[D].toNat = A 0 := by rw [G, E, Nat.add_zero]
 unfold u8n
 simp only [bbb s D A E, F]
def D8 (b0 b1 b2 b3 : Nat) (p1 p2 p3 : Prop) [Decidable p1] [Decidable p2] [Decidable p3] : Nat × Nat :=
 if b0 < 128 then (b0, 1)
 else if b0 / 32 = 6 ∧ p1 then (if b0 % 32 * 64 + b1 % 64 ≥ 128 then (b0 % 32 * 64 + b1 % 64, 2) else (65533, 1))
 else if b0 / 16 = 14 ∧ p1 ∧ p2 then (if b0 % 16 * 4096 + b1 % 64 * 64 + b2 % 64 ≥ 2048 ∧ ¬ (55296 ≤ b0 % 16 * 4096 + b1 % 64 * 64 + b2 % 64 ∧ b0 % 16 * 4096 + b1 % 64 * 64 + b2 % 64 ≤ 57343) then (b0 % 16 * 4096 + b1 % 64 * 64 + b2 % 64, 3) else (65533, 1))
 else if b0 / 8 = 30 ∧ p1 ∧ p2 ∧ p3 then (if b0 % 8 * 262144 + b1 % 64 * 4096 + b2 % 64 * 64 + b3 % 64 ≥ 65536 ∧ b0 % 8 * 262144 + b1 % 64 * 4096 + b2 % 64 * 64 + b3 % 64 ≤ 1114111 then (b0 % 8 * 262144 + b1 % 64 * 4096 + b2 % 64 * 64 + b3 % 64, 4) else (65533, 1))
 else (65533, 1)
def U8 (b0 b1 b2 b3 : Nat) (q1 q2 q3 : Prop) [Decidable q1] [Decidable q2] [Decidable q3] : Nat :=
 if b0 < 128 then 1
 else if 194 ≤ b0 ∧ b0 ≤ 223 then (if q1 ∧ 128 ≤ b1 ∧ b1 ≤ 191 then 2 else 0)
 else if 224 ≤ b0 ∧ b0 ≤ 239 then (if (q1 ∧ (if b0 = 224 then 160 else 128) ≤ b1 ∧ b1 ≤ (if b0 = 237 then 159 else 191)) ∧ (q2 ∧ 128 ≤ b2 ∧ b2 ≤ 191) then 3 else 0)
 else if 240 ≤ b0 ∧ b0 ≤ 244 then (if ((q1 ∧ (if b0 = 240 then 144 else 128) ≤ b1 ∧ b1 ≤ (if b0 = 244 then 143 else 191)) ∧ (q2 ∧ 128 ≤ b2 ∧ b2 ≤ 191)) ∧ (q3 ∧ 128 ≤ b3 ∧ b3 ≤ 191) then 4 else 0)
 else 0
theorem bcr (A b1 b2 D : Nat) (E F I : Prop) [Decidable E] [Decidable F] [Decidable I] (h0 : A < 256) :
 (U8 A b1 b2 D E F I = 0 ∧ D8 A b1 b2 D (E ∧ 128 ≤ b1 ∧ b1 ≤ 191) (F ∧ 128 ≤ b2 ∧ b2 ≤ 191) (I ∧ 128 ≤ D ∧ D ≤ 191) = (65533, 1)) ∨
 (U8 A b1 b2 D E F I ≠ 0 ∧ (D8 A b1 b2 D (E ∧ 128 ≤ b1 ∧ b1 ≤ 191) (F ∧ 128 ≤ b2 ∧ b2 ≤ 191) (I ∧ 128 ≤ D ∧ D ≤ 191)).2 = U8 A b1 b2 D E F I ∧ ((D8 A b1 b2 D (E ∧ 128 ≤ b1 ∧ b1 ≤ 191) (F ∧ 128 ≤ b2 ∧ b2 ≤ 191) (I ∧ 128 ≤ D ∧ D ≤ 191)).1 = 65533 → (D8 A b1 b2 D (E ∧ 128 ≤ b1 ∧ b1 ≤ 191) (F ∧ 128 ≤ b2 ∧ b2 ≤ 191) (I ∧ 128 ≤ D ∧ D ≤ 191)).2 ≠ 1)) := by
 unfold U8 D8
 by_cases N : A < 128
 ·rw [qw N, qw N]; right; refine ⟨by omega, rfl, fun h => ?_⟩; simp at h; omega
 rw [qk N, qk N]
 by_cases c1 : 192 ≤ A ∧ A ≤ 223
 ·have e1 : ¬ (224 ≤ A ∧ A ≤ 239) := by omega
  have e2 : ¬ (240 ≤ A ∧ A ≤ 244) := by omega
  have O : A / 32 = 6 := by omega
  have f2 : ¬ (A / 16 = 14) := by omega
  have f3 : ¬ (A / 8 = 30) := by omega
  simp only [e1, e2, O, f2, f3, ↓reduceIte, true_and, false_and]; by_cases J : E ∧ 128 ≤ b1 ∧ b1 ≤ 191
  ·simp only [J, ↓reduceIte, true_and]
   by_cases g : 194 ≤ A
   ·have H : 194 ≤ A ∧ A ≤ 223 := by omega
    have G : A % 32 * 64 + b1 % 64 ≥ 128 := by omega
    rw [qw H, qw G]; right; exact ⟨by omega, rfl, fun _ => by simp⟩
   ·have H : ¬ (194 ≤ A ∧ A ≤ 223) := by omega
    have G : ¬ (A % 32 * 64 + b1 % 64 ≥ 128) := by omega
    rw [qk H, qk G]; left; exact ⟨by first | rfl | trivial, by first | rfl | trivial⟩
  ·simp only [J, ↓reduceIte]; left; exact ⟨by split <;> rfl, by first | rfl | trivial⟩
 have X : ¬ (194 ≤ A ∧ A ≤ 223) := by omega
 have O : ¬ (A / 32 = 6) := by omega
 simp only [X, O, ↓reduceIte, false_and]
 by_cases U : 224 ≤ A ∧ A ≤ 239
 ·have f2 : A / 16 = 14 := by omega
  simp only [U, f2, ↓reduceIte, true_and, and_self]; by_cases J : E
  ·by_cases M : F ∧ 128 ≤ b2 ∧ b2 ≤ 191
   ·simp only [J, M, true_and, and_true, and_self]
    by_cases g : ((if A = 224 then 160 else 128) ≤ b1 ∧ b1 ≤ (if A = 237 then 159 else 191))
    ·have K := g
     split at K <;> split at K
     all_goals
      have H : 128 ≤ b1 ∧ b1 ≤ 191 := by omega
      have G : A % 16 * 4096 + b1 % 64 * 64 + b2 % 64 ≥ 2048 ∧ ¬ (55296 ≤ A % 16 * 4096 + b1 % 64 * 64 + b2 % 64 ∧ A % 16 * 4096 + b1 % 64 * 64 + b2 % 64 ≤ 57343) := by omega
      rw [qw g, qw H, qw G]; right; exact ⟨by omega, rfl, fun _ => by simp⟩
    ·rw [qk g]
     left; refine ⟨rfl, ?_⟩; split
     ·rename_i H
      rw [qk]; intro G; apply g; split <;> split <;> omega
     ·split
      ·rename_i h8; omega
      ·rfl
   ·have f3 : ¬ (A / 8 = 30) := by omega
    simp only [M, f3, and_false, false_and, ↓reduceIte]; left; exact ⟨by first | rfl | trivial, by first | rfl | trivial⟩
  ·have f3 : ¬ (A / 8 = 30) := by omega
   simp only [J, f3, false_and, ↓reduceIte]; left; exact ⟨by first | rfl | trivial, by first | rfl | trivial⟩
 have f2 : ¬ (A / 16 = 14) := by omega
 simp only [U, f2, ↓reduceIte, false_and]
 by_cases c3 : 240 ≤ A ∧ A ≤ 247
 ·have f3 : A / 8 = 30 := by omega
  simp only [f3, true_and]; by_cases J : E
  ·by_cases M : F ∧ 128 ≤ b2 ∧ b2 ≤ 191
   ·by_cases W : I ∧ 128 ≤ D ∧ D ≤ 191
    ·simp only [J, M, W, true_and, and_true, and_self]
     by_cases g : 240 ≤ A ∧ A ≤ 244 ∧ ((if A = 240 then 144 else 128) ≤ b1 ∧ b1 ≤ (if A = 244 then 143 else 191))
     ·obtain ⟨z, Z, g⟩ := g
      have K := g; rw [qw ⟨z, Z⟩, qw g]; split at K <;> split at K
      all_goals
       have H : 128 ≤ b1 ∧ b1 ≤ 191 := by omega
       have G : A % 8 * 262144 + b1 % 64 * 4096 + b2 % 64 * 64 + D % 64 ≥ 65536 ∧ A % 8 * 262144 + b1 % 64 * 4096 + b2 % 64 * 64 + D % 64 ≤ 1114111 := by omega
       rw [qw H, qw G]; right; exact ⟨by omega, rfl, fun _ => by simp⟩
     ·left
      constructor
      ·split
       ·rw [qk]; intro h; exact g ⟨by omega, by omega, h⟩
       ·rfl
      ·split
       ·rename_i H
        rw [qk]; intro G; apply g; refine ⟨by omega, by omega, ?_⟩; split <;> split <;> omega
       ·rfl
    ·simp only [W, and_false, ↓reduceIte]
     left; exact ⟨by split <;> rfl, by first | rfl | trivial⟩
   ·simp only [M, and_false, false_and, ↓reduceIte]
    left; exact ⟨by split <;> rfl, by first | rfl | trivial⟩
  ·simp only [J, false_and, ↓reduceIte]
   left; exact ⟨by split <;> rfl, by first | rfl | trivial⟩
 ·have f3 : ¬ (A / 8 = 30) := by omega
  have Y : ¬ (240 ≤ A ∧ A ≤ 244) := by omega
  simp only [f3, Y, ↓reduceIte, false_and]; left; exact ⟨by first | rfl | trivial, by first | rfl | trivial⟩
theorem afe {F : Type} {c d : Prop} [Decidable c] [Decidable d] {a D b b' : F} (h : c ↔ d) (G : a = D) (H : b = b') : (if c then a else b) = (if d then D else b') := by
 by_cases A : d
 ·rw [qw A, qw (h.2 A), G]
 ·rw [qk A, qk (fun E => A (h.1 E)), H]
theorem as1 (s : ByteArray) (D : Nat) (A : Nat → Nat) (F : ∀ k, A k = (s.get! (D + k)).toNat) :
 Utf8.decode s D = D8 (A 0) (A 1) (A 2) (A 3) (D + 1 < s.size ∧ 128 ≤ A 1 ∧ A 1 ≤ 191) (D + 2 < s.size ∧ 128 ≤ A 2 ∧ A 2 ≤ 191) (D + 3 < s.size ∧ 128 ≤ A 3 ∧ A 3 ≤ 191) := by
 have E : ∀ k, A k < 256 := fun k => by rw [F]; exact (s.get! (D + k)).toNat_lt
 have I := E 0; have J := E 1; have G := E 2; have H := E 3
 unfold Utf8.decode D8 Utf8.runeError
 simp only [← F]
 refine afe Iff.rfl rfl (afe ?_ rfl (afe ?_ (afe ?_ rfl rfl) (afe ?_ (afe ?_ rfl rfl) rfl)))
 ·simp only [jj, beq_iff_eq, qm]; omega
 ·simp only [jj, beq_iff_eq, qm]; omega
 ·unfold Utf8.valid; simp only [jj, Bool.or_eq_true, beq_iff_eq, qm]; omega
 ·simp only [jj, beq_iff_eq, qm]; omega
 ·unfold Utf8.valid; simp only [jj, Bool.or_eq_true, beq_iff_eq, qm]; omega
theorem bbd (s : ByteArray) (D : Nat) (h : D < s.size) (A : Nat → Nat) (E : ∀ k, A k = (s.get! (D + k)).toNat) :
 u8n (s.data.toList.drop D) = U8 (A 0) (A 1) (A 2) (A 3) (D + 1 < s.size) (D + 2 < s.size) (D + 3 < s.size) := by
 rw [bbc s D h A E]
 unfold U8 ctA
 simp only [jj, qm]
theorem aq6 (s : ByteArray) (A : Nat) (h : A < s.size) :
 (u8n (s.data.toList.drop A) = 0 ∧ Utf8.decode s A = (65533, 1)) ∨
 (u8n (s.data.toList.drop A) ≠ 0 ∧ (Utf8.decode s A).2 = u8n (s.data.toList.drop A) ∧ ((Utf8.decode s A).1 = 65533 → (Utf8.decode s A).2 ≠ 1)) := by
 have D : ∀ k, (fun k => (s.get! (A + k)).toNat) k = (s.get! (A + k)).toNat := fun _ => rfl
 rw [bbd s A h _ D, as1 s A _ D]
 exact bcr _ _ _ _ _ _ _ (s.get! (A + 0)).toNat_lt
open Go.RowKit Go.Shelf Tryz
def bcs : Go.Shelf.Ren := ⟨fun | 197 => 222 | 260 => 223 | n => n, fun | 9 => 9 | 21 => 21 | 3 => 3 | 4 => 4 | 5 => 5 | 105 => 248 | 119 => 251 | 0 => 0 | 46 => 218 | 139 => 254 | 138 => 253 | n => n, fun | 3 => 1 | 4 => 2 | n => n⟩
theorem ayd : Go.Proofs.Lays.n197 prog bcs := {
 mixed := by kernel_rfl
 f197 := func222.trans (congrArg some (by kernel_rfl))
 f260 := func223.trans (congrArg some (by kernel_rfl))
 t0 := underlying0
 a0 := isAgg0
 z0 := sizeOf0
 v0 := zeroValue0
 t3 := underlying3
 a3 := isAgg3
 z3 := sizeOf3
 v3 := zeroValue3
 t4 := underlying4
 a4 := isAgg4
 z4 := sizeOf4
 v4 := zeroValue4
 t5 := underlying5
 a5 := isAgg5
 z5 := sizeOf5
 v5 := zeroValue5
 t9 := underlying9
 a9 := isAgg9
 z9 := sizeOf9
 v9 := zeroValue9
 t21 := underlying21
 a21 := isAgg21
 z21 := sizeOf21
 v21 := zeroValue21
 t46 := underlying218
 a46 := isAgg218
 z46 := sizeOf218
 v46 := zeroValue218
 t105 := underlying248
 a105 := isAgg248
 z105 := sizeOf248
 v105 := zeroValue248
 t119 := underlying251
 a119 := isAgg251
 z119 := sizeOf251
 t138 := underlying253
 a138 := isAgg253
 z138 := sizeOf253
 v138 := zeroValue253
 t139 := underlying254
 a139 := isAgg254
 z139 := sizeOf254
 v139 := zeroValue254
 g3 := by kernel_rfl
 g4 := by kernel_rfl }
def Tb (w : World) : Prop := Lib.Utf8Tabs 1 2 w
theorem Tb.pure {w w' : World} (h : Tb w) (A : Below w.heap.size w w') : Tb w' := by
 refine ⟨fun c D => ?_, fun i hi => ?_⟩
 ·have := h.1 c D
  rw [A.cell (World.block_lt_of_cell? w _ this)]; exact this
 ·have := h.2 i hi
  exact ⟨by rw [A.cell (World.block_lt_of_cell? w _ this.1)]; exact this.1, by rw [A.cell (World.block_lt_of_cell? w _ this.2)]; exact this.2⟩
theorem aq7 (s : ByteArray) (w : World) (A : Tb w) :
 Calls prog 222 #[.string s] w fun e w' => e = .returned (.tuple #[.int .i32 (Lib.decodeGo s).1, .int .i64 (Lib.decodeGo s).2]) ∧ Below w.heap.size w w' := Any.utf8_DecodeRuneInString ayd s w A
theorem aoq (s : ByteArray) (A : Nat) (h : A < s.size) : Lib.decodeGo (s.extract A s.size) = Utf8.decode s A := by
 unfold Lib.decodeGo
 have hs : (s.extract A s.size).size ≠ 0 := by simp; omega
 rw [qk hs, Lib.tail_decode, Nat.add_zero]
theorem aor (s : ByteArray) (A : Nat) (h : ¬ A < s.size) : u8 (s.data.toList.drop A) = true := by
 rw [List.drop_eq_nil_of_le (by rw [acj]; omega)]; rfl
theorem aq8 (s : ByteArray) (A : Nat) (h : A < s.size) (D : u8n (s.data.toList.drop A) = 0) : u8 (s.data.toList.drop A) = false := by
 have E : A < s.data.toList.length := by rw [acj]; exact h
 rw [List.drop_eq_getElem_cons E] at D ⊢
 exact bcm D
theorem aos (s : ByteArray) (A : Nat) (h : A < s.size) (D : u8n (s.data.toList.drop A) ≠ 0) : u8 (s.data.toList.drop (A + u8n (s.data.toList.drop A))) = u8 (s.data.toList.drop A) := by
 have E : A < s.data.toList.length := by rw [acj]; exact h
 rw [← List.drop_drop]
 rw [List.drop_eq_getElem_cons E] at D ⊢
 exact (bar D).symm
theorem World.iterPos_of {w : World} {k : Nat} {s : ByteArray} {p : Nat} (h : w.heap[k]? = some (.stringIter s p)) : w.iterPos k = p := by simp [World.iterPos, h]
theorem aek {P : Prop} (h : P := by
 go_wp2
 go_ret
 exact ⟨by rw [hres.out]; rfl, hB⟩) : P := h
theorem am5 (s : ByteArray) (w : World) (hs : (s.size : Int) ≤ 9223372036854775807) (hT : Tb w) :
 Calls prog 216 #[.string s] w fun e w' => e = .returned (.bool (u8s s)) ∧ Below w.heap.size w w' := by
 obtain ⟨M, W⟩ := qx (u8s s)
 have ag : Hid (u8 (s.data.toList.drop 0) = M) := qq (by rw [List.drop_zero]; exact W)
 rw [W]
 clear W
 have ad := (qz w.heap.size w).alloc (qj _) (.stringIter s 0)
 have ab : (w.alloc (.stringIter s 0)).heap[w.heap.size]? = some (.stringIter s 0) := World.iter_heap w s 0
 go_enter func216, ntmps216
 go_wp2
 go_loopw [2] (fun s2 wr => s2 = .bool false ∧ ∃ A : Nat, Hid (u8 (s.data.toList.drop A) = M) ∧ Hid (wr.heap[w.heap.size]? = some (.stringIter s A)) ∧ Below w.heap.size w wr) (fun _ wr => s.size - wr.iterPos w.heap.size)
 case atStart => exact ⟨rfl, 0, ag, qq ab, ad⟩
 case round =>
  clear ab ad; obtain ⟨rfl, A, z, hit, hB⟩ := hrel; by_cases D : A < s.size
  ·have N := aq6 s A D
   have E := aq7 (s.extract A s.size) (wr.iterAt w.heap.size s (A + (Utf8.decode s A).2)) (hT.pure (Lib.below_iterAt hB (qj _) s _)); rw [aoq s A D] at E; have I := fun X => Lib.run_next_any_at (P := prog) wr w.heap.size s A X hit.out D
   obtain ⟨d, Z⟩ := qx (Utf8.decode s A); rw [Z] at N E; simp only [Z] at I; obtain ⟨c, n⟩ := d; dsimp only at N E I; have ah := I; have ae := qq E; have F := Lib.below_iterAt hB (qj _) s (A + n); have J := qq (Lib.iterAt_heap wr w.heap.size s A (A + n) hit.out); have ac := qq (World.iterPos_of hit.out); clear E I Z hT; rcases N with ⟨H, G⟩ | ⟨H, G, Y⟩
   ·simp only [jm] at G
    obtain ⟨rfl, rfl⟩ := G; have hres := qq (show M = false by rw [← z.out]; exact aq8 s A D H); clear H; go_wp2_with (go_at_call 222; (with_reducible refine ae.out.mono ?_); rintro e w1 ⟨rfl, K⟩); go_ret; exact ⟨by rw [hres.out]; rfl, F.trans (K.mono F.size)⟩
   ·have U := aos s A D H
    rw [← G] at U; have ai : 1 ≤ n := by omega
    have aa := qq (U.trans z.out); clear U H G; by_cases hc : c = 65533
    ·subst hc
     have ak : ((n : Int) == 1) = false := ju.2 (by have := Y rfl; omega); clear Y; go_wp2_with (go_at_call 222; (with_reducible refine ae.out.mono ?_); rintro e w1 ⟨rfl, K⟩); have af : w1.heap[w.heap.size]? = some (.stringIter s (A + n)) := (K.block w.heap.size (Array.getElem?_eq_some_iff.1 J.out).1).trans J.out; have O := World.iterPos_of af; go_roundw
     case rel => exact ⟨rfl, A + n, aa, qq af, F.trans (K.mono F.size)⟩
     case measure => rw [O, ac.out]; omega
    ·have aj : ((c : Int) == 65533) = false := ju.2 (by omega)
     clear Y hc; go_wp2; have O := World.iterPos_of J.out; go_roundw
     case rel => exact ⟨rfl, A + n, aa, J, F⟩
     case measure => rw [O, ac.out]; omega
  ·have ah := fun X => Lib.run_next_end_at (P := prog) wr w.heap.size s A X hit.out D
   have hres := qq (show M = true by rw [← z.out]; exact aor s A D); exact aek
def cls (b0 : Nat) : Nat × Nat × Nat :=
 if b0 < 128 then (1, 128, 191) else if 194 ≤ b0 ∧ b0 ≤ 223 then (2, 128, 191)
 else if 224 ≤ b0 ∧ b0 ≤ 239 then (3, if b0 = 224 then 160 else 128, if b0 = 237 then 159 else 191)
 else if 240 ≤ b0 ∧ b0 ≤ 244 then (4, if b0 = 240 then 144 else 128, if b0 = 244 then 143 else 191) else (0, 128, 191)
def okB (A : Nat → Nat) (lo hi k : Nat) : Prop := (if k = 1 then lo else 128) ≤ A k ∧ A k ≤ (if k = 1 then hi else 191)
theorem bho (P : Nat → Prop) : (∀ k, 1 ≤ k → k < 1 → P k) ↔ True := ⟨fun _ => trivial, fun _ k D A => by omega⟩
theorem bhp (P : Nat → Prop) : (∀ k, 1 ≤ k → k < 2 → P k) ↔ P 1 := ⟨fun h => h 1 (by omega) (by omega), fun h k D A => by
 obtain rfl : k = 1 := by omega
 exact h⟩
theorem bhq (P : Nat → Prop) : (∀ k, 1 ≤ k → k < 3 → P k) ↔ P 1 ∧ P 2 := ⟨fun h => ⟨h 1 (by omega) (by omega), h 2 (by omega) (by omega)⟩, fun h k D A => by
 rcases (show k = 1 ∨ k = 2 by omega) with rfl | rfl
 ·exact h.1
 ·exact h.2⟩
theorem bhr (P : Nat → Prop) : (∀ k, 1 ≤ k → k < 4 → P k) ↔ P 1 ∧ P 2 ∧ P 3 := ⟨fun h => ⟨h 1 (by omega) (by omega), h 2 (by omega) (by omega), h 3 (by omega) (by omega)⟩, fun h k D A => by
 rcases (show k = 1 ∨ k = 2 ∨ k = 3 by omega) with rfl | rfl | rfl
 ·exact h.1
 ·exact h.2.1
 ·exact h.2.2⟩
theorem bgq (s : ByteArray) (E : Nat) (h : E < s.size) (A : Nat → Nat) (O : ∀ k, A k = (s.get! (E + k)).toNat) {n lo hi : Nat} (D : cls (A 0) = (n, lo, hi)) :
 (u8n (s.data.toList.drop E) = 0 ∧ (n = 0 ∨ ¬ E + n ≤ s.size ∨ ¬ ∀ k, 1 ≤ k → k < n → okB A lo hi k)) ∨
 (u8n (s.data.toList.drop E) = n ∧ n ≠ 0 ∧ E + n ≤ s.size ∧ ∀ k, 1 ≤ k → k < n → okB A lo hi k) := by
 rw [bbd s E h A O]
 unfold cls at D
 unfold U8
 split at D
 ·rename_i c; simp only [jm] at D; obtain ⟨rfl, rfl, rfl⟩ := D
  rw [qw c]; right; exact ⟨rfl, by omega, by omega, (bho _).2 trivial⟩
 ·rename_i c; rw [qk c]
  split at D
  ·rename_i c1; simp only [jm] at D; obtain ⟨rfl, rfl, rfl⟩ := D
   rw [qw c1, bhp]; unfold okB; split
   ·rename_i d; right; exact ⟨rfl, by omega, by omega, by simp; omega⟩
   ·rename_i d; left; refine ⟨rfl, ?_⟩; simp; omega
  ·rename_i c1; rw [qk c1]
   split at D
   ·rename_i c2; simp only [jm] at D; obtain ⟨rfl, K, F⟩ := D
    rw [qw c2, bhq, K, F]; unfold okB; split
    ·rename_i d; right; obtain ⟨⟨M, I, G⟩, W, J, H⟩ := d; exact ⟨rfl, by omega, by omega, ⟨by simpa using ⟨I, G⟩, by simpa using ⟨J, H⟩⟩⟩
    ·rename_i d; left; refine ⟨rfl, ?_⟩
     by_cases e : E + 3 ≤ s.size
     ·right; right; intro q; apply d; simp at q; exact ⟨⟨by omega, q.1.1, q.1.2⟩, by omega, q.2.1, q.2.2⟩
     ·exact .inr (.inl e)
   ·rename_i c2; rw [qk c2]
    split at D
    ·rename_i c3; simp only [jm] at D; obtain ⟨rfl, K, F⟩ := D
     rw [qw c3, bhr, K, F]; unfold okB; split
     ·rename_i d; right; obtain ⟨⟨⟨M, I, G⟩, W, J, H⟩, X, U, N⟩ := d; exact ⟨rfl, by omega, by omega, ⟨by simpa using ⟨I, G⟩, by simpa using ⟨J, H⟩, by simpa using ⟨U, N⟩⟩⟩
     ·rename_i d; left; refine ⟨rfl, ?_⟩
      by_cases e : E + 4 ≤ s.size
      ·right; right; intro q; apply d; simp at q; exact ⟨⟨⟨by omega, q.1.1, q.1.2⟩, by omega, q.2.1.1, q.2.1.2⟩, by omega, q.2.2.1, q.2.2.2⟩
      ·exact .inr (.inl e)
    ·rename_i c3; simp only [jm] at D; obtain ⟨rfl, rfl, rfl⟩ := D
     rw [qk c3]; left; exact ⟨rfl, .inl rfl⟩
theorem bf8 (b : Nat) {n lo hi : Nat} (A : cls b = (n, lo, hi)) :
 (b < 128 ∧ n = 1 ∧ lo = 128 ∧ hi = 191) ∨ (194 ≤ b ∧ b ≤ 223 ∧ n = 2 ∧ lo = 128 ∧ hi = 191) ∨ (b = 224 ∧ n = 3 ∧ lo = 160 ∧ hi = 191) ∨ (b = 237 ∧ n = 3 ∧ lo = 128 ∧ hi = 159) ∨
 (225 ≤ b ∧ b ≤ 239 ∧ b ≠ 237 ∧ n = 3 ∧ lo = 128 ∧ hi = 191) ∨ (b = 240 ∧ n = 4 ∧ lo = 144 ∧ hi = 191) ∨ (b = 244 ∧ n = 4 ∧ lo = 128 ∧ hi = 143) ∨ (241 ≤ b ∧ b ≤ 243 ∧ n = 4 ∧ lo = 128 ∧ hi = 191) ∨
 (((128 ≤ b ∧ b ≤ 193) ∨ 245 ≤ b) ∧ n = 0 ∧ lo = 128 ∧ hi = 191) := by
 unfold cls at A
 split at A
 ·simp only [jm] at A; left; omega
 ·split at A
  ·simp only [jm] at A; right; left; omega
  ·split at A
   ·simp only [jm] at A
    obtain ⟨rfl, E, D⟩ := A; right; right; by_cases G : b = 224
    ·left; rw [qw G] at E; rw [qk (by omega)] at D; exact ⟨G, rfl, E.symm, D.symm⟩
    ·right; rw [qk G] at E
     by_cases F : b = 237
     ·left; rw [qw F] at D; exact ⟨F, rfl, E.symm, D.symm⟩
     ·right; left; rw [qk F] at D; exact ⟨by omega, by omega, F, rfl, E.symm, D.symm⟩
   ·split at A
    ·simp only [jm] at A
     obtain ⟨rfl, E, D⟩ := A; right; right; right; right; right; by_cases G : b = 240
     ·left; rw [qw G] at E; rw [qk (by omega)] at D; exact ⟨G, rfl, E.symm, D.symm⟩
     ·right; rw [qk G] at E
      by_cases F : b = 244
      ·left; rw [qw F] at D; exact ⟨F, rfl, E.symm, D.symm⟩
      ·right; left; rw [qk F] at D; exact ⟨by omega, by omega, rfl, E.symm, D.symm⟩
    ·simp only [jm] at A
     obtain ⟨rfl, rfl, rfl⟩ := A; right; right; right; right; right; right; right; right; exact ⟨by omega, rfl, rfl, rfl⟩
end Go.Proofs.YtgnaifhmcllnlaaGreatDoor
