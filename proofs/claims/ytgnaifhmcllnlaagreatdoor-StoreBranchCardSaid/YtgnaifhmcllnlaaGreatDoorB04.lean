/- work.whole; blocks of eight cells. Conditions: none. (Texts joined.) -/
import Derived.Test.YtgnaifhmcllnlaaGreatDoorB03
set_option maxRecDepth 100000
set_option maxHeartbeats 1600000
set_option linter.unusedSimpArgs false
set_option linter.unusedVariables false
namespace Go.Proofs.YtgnaifhmcllnlaaGreatDoor
open Go.RowKit Tryz
def Pr.zero : Pr := ⟨⟨#[]⟩, false, false, ⟨#[]⟩, V.zero⟩
def pgO (b : List UInt8) : Option Pr := if (pgD b).chk = 0 ∧ (pgD b).bytes = b then some (pgD b) else none
theorem aoy (b : List UInt8) : aol b (pgO b) := ayy (ba0 b)
theorem bbj (b : List UInt8) : pgO b = if (pgP b).2.2 = false ∧ (pgP b).1.chk = 0 ∧ (pgP b).1.bytes = b then some (pgP b).1 else none := amy (aoy b) (ayz (ba7 b))
def prE (o : Option Pr) : Int := match o with | some _ => 0 | none => 90
def prV (o : Option Pr) : Pr := match o with | some p => p | none => Pr.zero
def bd2 (w : World) (o : Option Pr) (e : Ending) (w' : World) : Prop := ∃ t : PT, e = .returned (.tuple #[t.arg, .int .i64 (prE o)]) ∧ t.p = prV o ∧ Rd (fun i => w.heap.size ≤ i) w' t.app ∧ Below w.heap.size w w'
theorem ati {p : Pr} {s : ByteArray} : p.text = s ↔ p.bytes = s.data.toList := by
 unfold Pr.text
 constructor
 ·intro h; rw [← h]
 ·intro h; rw [h]
theorem ay8 (x y : Nat) (hx : x < 2^64) (hy : y < 2^64) : bits .and .u64 (x : Int) (y : Int) = ((x &&& y : Nat) : Int) := by
 have h : x &&& y < 2^64 := Nat.and_lt_two_pow x hy
 unfold bits
 simp only [BitVec.toNat_and, al6 x hx, al6 y hy]
 exact wrap_u64 _ (by omega) (by omega)
theorem aoz (n i : Nat) (hn : n < 65536) (hi : i < 3) (m : Int) (hm : m = ((2 ^ i : Nat) : Int)) : (bits .and .u64 (n : Int) m != 0) = (n / 2 ^ i % 2 == 1) := by
 have hp : 2 ^ i < 2 ^ 64 := Nat.pow_lt_pow_right (by omega) (by omega)
 subst hm
 have key : n &&& 2 ^ i = if n.testBit i then 2 ^ i else 0 := by
  apply Nat.eq_of_testBit_eq; intro j; rw [Nat.testBit_and, Nat.testBit_two_pow]; by_cases e : i = j
  ·subst e; cases h : n.testBit i <;> simp [Nat.testBit_two_pow]
  ·simp only [e, decide_false, Bool.and_false]
   split
   ·rw [Nat.testBit_two_pow]; simp [e]
   ·simp
 rw [ay8 n (2 ^ i) (by omega) hp, key, Nat.testBit_eq_decide_div_mod_eq]
 have h2 : 0 < 2 ^ i := Nat.pow_pos (by omega)
 by_cases h : n / 2 ^ i % 2 = 1
 ·simp only [h, decide_true, if_true, beq_self_eq_true, bne_iff_ne]; omega
 ·simp only [h, decide_false, ju.2 h]; rfl
theorem bbk {n : Nat} (hn : n < 65536) : (bits .and .u64 (n : Int) 1 != 0) = (n % 2 == 1) := by
 have := aoz n 0 hn (by omega) 1 rfl
 rwa [Nat.pow_zero, Nat.div_one] at this
theorem bbl {n : Nat} (hn : n < 65536) : (bits .and .u64 (n : Int) 2 != 0) = (n / 2 % 2 == 1) := aoz n 1 hn (by omega) 2 rfl
theorem bcz {n : Nat} (hn : n < 65536) : (bits .and .u64 (n : Int) 4 != 0) = (n / 4 % 2 == 1) := aoz n 2 hn (by omega) 4 rfl
theorem ajk (w : World) (rb vb : Nat) (r : RS) (there : Bool) (hp : RdP w rb vb) (hs : RdS w vb r.1 r.2) (hL : Big r.1.length) :
 Calls prog 170 #[.agg #[.pointer (some ⟨rb, 0, none⟩)], .bool there] w fun e w' => e = .returned (.string (aoj there r).1) ∧ RdS w' vb (aoj there r).2.1 (aoj there r).2.2 ∧ Upd (acu vb) w w' := by
 have hA := (qz w.heap.size w).alloc (qj _) (.cells #[.pointer (some ⟨rb, 0, none⟩)] 199)
 have hu := Upd.of_below (S := acu vb) hA
 have b1 := Blk.new w [.pointer (some ⟨rb, 0, none⟩)] 199
 have c0 := b1.at 0 rfl
 have hp1 := hp.pure hA; have hs1 := hs.pure hA
 cases there
 ·go_enter func170, ntmps170
  go_wp2; go_ret; exact ⟨rfl, hs1, hu⟩
 ·obtain ⟨x, hx⟩ := zz (txR 1 255 r)
  have ht := av1 _ rb vb r 1 255 hp1 hs1 (by omega) hL (by unfold Big; omega); rw [hx] at ht; have hth := qq ht; rw [show aoj true r = x from hx]; clear ht hx; go_enter func170, ntmps170; go_wp2_with (go_at_call 197; refine (hth.out).mono ?_; rintro e w2 ⟨rfl, hs2, hu2⟩); go_ret; exact ⟨rfl, hs2, hu.only2 hu2⟩
open Tryz
def qn (s : ByteArray) : Bool := decide (1 ≤ s.size) && decide (s.size ≤ 40) && s.data.toList.all (fun c => decide (33 ≤ c.toNat) && decide (c.toNat ≤ 126))
def ah2 (n : Int) : Bool := decide (1 ≤ n) && decide (n ≤ 1099511627776)
def us (k : Int) : Nat := if k = 1 then 3 else if k = 2 then 1 else if k = 3 then 8 else if k = 4 then 12 else if k = 5 ∨ k = 7 then 6 else if k = 6 ∨ k = 8 ∨ k = 9 then 4 else 0
def uN (k : Int) : Bool := us k % 2 == 1
def uM (k : Int) : Bool := us k / 2 % 2 == 1
def uX (k : Int) : Bool := us k / 4 % 2 == 1
def uW (k : Int) : Bool := us k / 8 % 2 == 1
theorem atj {p : Pr} (hw : p.app.Wf) (h : p.chk = 0) : pgO p.bytes = some p := amz hw h (aoy _)
abbrev Xn := Int × ByteArray × ByteArray
def Xn.zero : Xn := (0, ⟨#[]⟩, ⟨#[]⟩)
def Xn.okB (x : Xn) : Bool := decide (0 < x.2.1.size) && decide (x.2.1.size ≤ 64) && decide (x.2.2.size ≤ 64)
structure Pt where
 q : ByteArray
 id : Int
 pr : Pr
 body : ByteArray
structure Rf where
 q : ByteArray
 id : Int
structure En where
 kind : Int
 name : ByteArray
 n : Int
 x : Xn
 zu : List Pt
 zy : List Rf
def En.zero : En := ⟨0, ⟨#[]⟩, 0, Xn.zero, [], []⟩
def Pr.smallB (p : Pr) : Bool := decide (p.chk = 0) && decide (p.bytes.length ≤ 8192)
def Pt.okB (num : Bool) (p : Pt) : Bool := qn p.q && (ah2 p.id == num) && (num || decide (p.id = 0)) && decide (p.body.size ≤ 4096) && p.pr.smallB
def Rf.okB (r : Rf) : Bool := qn r.q && ah2 r.id
def En.okB (e : En) : Bool :=
 !(us e.kind == 0) && (if uN e.kind then qn e.name else e.name.size == 0) && (if uM e.kind then ah2 e.n else e.n == 0) && (if uX e.kind then Xn.okB e.x else (e.x.1 == 0 && e.x.2.1.size == 0 && e.x.2.2.size == 0)) &&
 (uW e.kind || (e.zu.isEmpty && e.zy.isEmpty)) && decide (e.zu.length ≤ 100) && decide (e.zy.length ≤ 100) && e.zu.all (Pt.okB (e.kind == 3)) && e.zy.all Rf.okB
def En.chk (e : En) : Int := if e.okB then 0 else 130
theorem bbm {e : En} : e.chk = 0 ↔ e.okB = true := by unfold En.chk; cases e.okB <;> simp
def sT (s : ByteArray) : List UInt8 := UInt8.ofNat s.size :: s.data.toList
def Xn.bytes (x : Xn) : List UInt8 := be 4 x.1.toNat ++ (sT x.2.1 ++ sT x.2.2)
def Pt.bytes (p : Pt) : List UInt8 := sT p.q ++ (be 8 p.id.toNat ++ (be 4 p.pr.bytes.length ++ (p.pr.bytes ++ (be 2 p.body.size ++ p.body.data.toList))))
def Rf.bytes (r : Rf) : List UInt8 := sT r.q ++ be 8 r.id.toNat
def En.bytes (e : En) : List UInt8 :=
 UInt8.ofNat e.kind.toNat :: ((if uN e.kind then sT e.name else []) ++ ((if uM e.kind then be 8 e.n.toNat else []) ++ ((if uX e.kind then Xn.bytes e.x else []) ++
  (if uW e.kind then UInt8.ofNat e.zu.length :: (e.zu.flatMap Pt.bytes ++ UInt8.ofNat e.zy.length :: e.zy.flatMap Rf.bytes) else []))))
def En.text (e : En) : ByteArray := ⟨e.bytes.toArray⟩
structure En.Wf (e : En) : Prop where
 k0 : 0 ≤ e.kind
 k1 : e.kind < 256
 n0 : 0 ≤ e.n
 n1 : e.n < 18446744073709551616
 x0 : 0 ≤ e.x.1
 x1 : e.x.1 < 4294967296
 p : ∀ p ∈ e.zu, 0 ≤ p.id ∧ p.id < 18446744073709551616 ∧ p.pr.app.Wf
 t : ∀ r ∈ e.zy, 0 ≤ r.id ∧ r.id < 18446744073709551616
theorem bbn {s : ByteArray} (h : qn s = true) : s.size ≤ 40 := by unfold qn at h; simp only [jj, qm] at h; exact h.1.2
theorem bbo (s : ByteArray) : (sT s).length = s.size + 1 := by unfold sT; rw [jn, acj]
structure Wk where
 zu : List Pt
 zy : List Rf
def Wk.zero : Wk := ⟨[], []⟩
def xW : Xn := (0, ⟨#[120]⟩, ⟨#[]⟩)
def Wk.whole (w : Wk) : En := ⟨4, ⟨#[]⟩, 0, xW, w.zu, w.zy⟩
def acz (a b : Rf) : Bool := (a.q.toList == b.q.toList) && decide (a.id = b.id)
theorem abt {a b : Rf} : acz a b = true ↔ a = b := by
 unfold acz
 rw [jj, qm, aid]
 obtain ⟨p, q⟩ := a
 obtain ⟨r, s⟩ := b
 simp
def aa8 (l : List Rf) (r : Rf) : Nat := l.countP (fun x => acz x r)
theorem adb (r : Rf) : aa8 [] r = 0 := rfl
theorem acw (x : Rf) (l : List Rf) (r : Rf) : aa8 (x :: l) r = aa8 l r + if acz x r = true then 1 else 0 := by unfold aa8; rw [List.countP_cons]
theorem aa6 (a b : List Rf) (r : Rf) : aa8 (a ++ b) r = aa8 a r + aa8 b r := by unfold aa8; rw [List.countP_append]
def aem (l : List Rf) : Bool := l.all (fun r => decide (aa8 l r ≤ 1))
def Wk.okB (w : Wk) : Bool := w.whole.okB && aem w.zy
def Wk.chk (w : Wk) : Int := if w.okB then 0 else 130
theorem abq {l : List Rf} {r : Rf} : 0 < aa8 l r ↔ r ∈ l := by
 unfold aa8
 rw [List.countP_pos_iff]
 exact ⟨fun ⟨a, h, e⟩ => by rw [← abt.1 e]; exact h, fun h => ⟨r, h, abt.2 rfl⟩⟩
theorem ajl {l : List Rf} : aem l = true ↔ ∀ i, ∀ h : i < l.length, aa8 (l.take i) l[i] = 0 := by
 unfold aem
 simp only [jt, qm]
 constructor
 ·intro h i hi
  have h1 := h l[i] (qy hi); have e : aa8 l l[i] = aa8 (l.take i) l[i] + aa8 (l.drop i) l[i] := by rw [← aa6, List.take_append_drop]
  have h2 : 0 < aa8 (l.drop i) l[i] := abq.2 (by rw [List.drop_eq_getElem_cons hi]; exact List.mem_cons_self ..); omega
 ·intro h r hr
  have key : ∀ n, n ≤ l.length → aa8 (l.take n) r ≤ 1 := by
   intro n
   induction n with
   | zero => intro _; simp [adb]
   | succ n ih =>
    intro hn; have hn' : n < l.length := by omega
    rw [jx hn', aa6, acw, adb]; by_cases e : acz l[n] r = true
    ·have h0 := h n hn'
     rw [abt.1 e] at h0; rw [qw e, h0]; omega
    ·rw [qk e]; have := ih (by omega); omega
  have := key l.length (qj _); rwa [js] at this
def afg : List Pt → Int → List Pt
 | [], _ => []
 | p :: l, n => { p with id := n } :: afg l (n + 1)
def Wk.doE (w : Wk) (n : Int) : En × Int :=
 if w.okB = false then (En.zero, 130) else if w.zu ≠ [] ∧ (n = 0 ∨ 1099511627776 + 1 - (w.zu.length : Int) < n) then (En.zero, 6) else (⟨3, ⟨#[]⟩, 0, Xn.zero, afg w.zu n, w.zy⟩, 0)
theorem ag3 : ∀ (l : List Pt) (n : Int), (afg l n).length = l.length
 | [], _ => rfl
 | p :: l, n => by simp [afg, ag3 l (n + 1)]
theorem ao0 : ∀ {l : List Pt} {n : Int}, 1 ≤ n → n + l.length ≤ 1099511627776 + 1 → (∀ p ∈ l, Pt.okB false p = true) → ∀ p ∈ afg l n, Pt.okB true p = true
 | [], _, _, _, _, p, hp => by cases hp
 | q :: l, n, h1, h2, h, p, hp => by
  simp only [jn] at h2; unfold afg at hp; rcases List.mem_cons.1 hp with rfl | hp
  ·have hq := h q (List.mem_cons_self ..)
   unfold Pt.okB at hq ⊢; simp only [jj] at hq ⊢; refine ⟨⟨⟨⟨hq.1.1.1.1, ?_⟩, rfl⟩, hq.1.2⟩, hq.2⟩; have : ah2 n = true := by unfold ah2; simp only [jj, qm]; omega
   show (ah2 n == true) = true
   rw [this]; rfl
  ·exact ao0 (by omega) (by omega) (fun p hp => h p (List.mem_cons_of_mem _ hp)) p hp
def Wk.names (w : Wk) : List ByteArray := w.zu.map Pt.q ++ w.zy.map Rf.q
def Wk.into (w : Wk) (x : ByteArray) : Nat := if w.okB = false then 0 else w.zu.countP (fun p => p.q.toList == x.toList)
structure IsCmp {α : Type} (c : α → α → Int) : Prop where
 eq : ∀ a b, c a b = 0 ↔ a = b
 anti : ∀ a b, c b a = - c a b
 trans : ∀ a b d, c a b < 0 → c b d < 0 → c a d < 0
def ad8 (a b : Int) : Int := if a < b then -1 else if b < a then 1 else 0
theorem adn : IsCmp ad8 where
 eq := fun a b => by unfold ad8; split <;> (try split) <;> omega
 anti := fun a b => by unfold ad8; split <;> split <;> (try split) <;> omega
 trans := fun a b d => by unfold ad8; split <;> split <;> split <;> (try split) <;> (try split) <;> omega
theorem cmpL_ok : IsCmp Lib.compareBytes where
 eq := by
  intro a
  induction a with
  | nil => intro b; cases b <;> simp [Lib.compareBytes]
  | cons x a ih =>
   intro b
   cases b with
   | nil => simp [Lib.compareBytes]
   | cons y b =>
    unfold Lib.compareBytes; by_cases h1 : x < y
    ·rw [qw h1]; simp only [List.cons.injEq]; constructor
     ·intro h; omega
     ·rintro ⟨rfl, _⟩; exact jp h1 (UInt8.lt_irrefl x)
    ·rw [qk h1]
     by_cases h2 : y < x
     ·rw [qw h2]; simp only [List.cons.injEq]; constructor
      ·intro h; omega
      ·rintro ⟨rfl, _⟩; exact jp h2 (UInt8.lt_irrefl x)
     ·rw [qk h2, ih]
      have : x = y := UInt8.le_antisymm (UInt8.not_lt.1 h2) (UInt8.not_lt.1 h1); simp [this]
 anti := by
  intro a
  induction a with
  | nil => intro b; cases b <;> simp [Lib.compareBytes]
  | cons x a ih =>
   intro b
   cases b with
   | nil => simp [Lib.compareBytes]
   | cons y b =>
    unfold Lib.compareBytes; by_cases h1 : x < y
    ·rw [qk (fun h => UInt8.lt_irrefl x (UInt8.lt_trans h1 h)), qw h1, qw h1]; rfl
    ·by_cases h2 : y < x
     ·rw [qw h2, qk h1, qw h2]
     ·rw [qk h2, qk h1, qk h1, qk h2, ih]
 trans := by
  intro a
  induction a with
  | nil => intro b d; cases b <;> cases d <;> simp [Lib.compareBytes]
  | cons x a ih =>
   intro b d
   cases b with
   | nil => simp [Lib.compareBytes]
   | cons y b =>
    cases d with
    | nil =>
     simp only [Lib.compareBytes]; split
     ·intro _ h; omega
     ·split
      ·intro h; omega
      ·intro _ h; omega
    | cons z d =>
     unfold Lib.compareBytes; by_cases h1 : x < y
     ·rw [qw h1]
      by_cases h3 : y < z
      ·rw [qw h3, qw (UInt8.lt_trans h1 h3)]; intro _ _; omega
      ·rw [qk h3]
       by_cases h4 : z < y
       ·rw [qw h4]; intro _ h; omega
       ·have : y = z := UInt8.le_antisymm (UInt8.not_lt.1 h4) (UInt8.not_lt.1 h3)
        subst this; rw [qw h1]; intro _ _; omega
     ·rw [qk h1]
      by_cases h2 : y < x
      ·rw [qw h2]; intro h; omega
      ·have : x = y := UInt8.le_antisymm (UInt8.not_lt.1 h2) (UInt8.not_lt.1 h1)
       subst this; rw [qk h2]; by_cases h3 : x < z
       ·rw [qw h3, qw h3]; intro _ _; omega
       ·rw [qk h3, qk h3]
        by_cases h4 : z < x
        ·rw [qw h4]; intro _ h; omega
        ·rw [qk h4, qk h4]; exact ih b d
def abf (s t : ByteArray) : Int := Lib.compareBytes s.data.toList t.data.toList
theorem cmpB_ok : IsCmp abf where
 eq := fun a b => by
  unfold abf; rw [cmpL_ok.eq]; constructor
  ·intro h; cases a; cases b; congr 1; exact Array.toList_inj.1 h
  ·rintro rfl; rfl
 anti := fun a b => cmpL_ok.anti _ _
 trans := fun a b d => cmpL_ok.trans _ _ _
def atk (c d : Int) : Int := if c ≠ 0 then c else d
def ay9 {α β : Type} (c : α → α → Int) (d : β → β → Int) (x y : α × β) : Int := atk (c x.1 y.1) (d x.2 y.2)
theorem atl {α β : Type} {c : α → α → Int} {d : β → β → Int} (hc : IsCmp c) (hd : IsCmp d) : IsCmp (ay9 c d) where
 eq := fun a b => by
  unfold ay9 atk; split
  ·rename_i h
   constructor
   ·intro h'; exact jp h' h
   ·rintro rfl; exact jp ((hc.eq _ _).2 rfl) h
  ·rename_i h
   have h1 := (hc.eq _ _).1 (Decidable.of_not_not h); rw [hd.eq]; constructor
   ·intro h2; exact Prod.ext h1 h2
   ·rintro rfl; rfl
 anti := fun a b => by
  unfold ay9 atk; rw [hc.anti a.1 b.1, hd.anti a.2 b.2]; split <;> split <;> omega
 trans := fun a b e => by
  unfold ay9 atk; by_cases h1 : c a.1 b.1 = 0
  ·have e1 := (hc.eq _ _).1 h1
   rw [qk (by omega), e1]; by_cases h2 : c b.1 e.1 = 0
   ·rw [qk (by omega), qk (by omega)]; exact hd.trans _ _ _
   ·rw [qw h2, qw h2]; intro _ h; exact h
  ·rw [qw h1]
   by_cases h2 : c b.1 e.1 = 0
   ·have e2 := (hc.eq _ _).1 h2
    rw [qk (by omega), ← e2, qw h1]; intro h _; exact h
   ·rw [qw h2]
    intro h3 h4; have := hc.trans _ _ _ h3 h4; rw [qw (by omega)]; exact this
theorem IsCmp.refl {α : Type} {c : α → α → Int} (h : IsCmp c) (a : α) : c a a = 0 := (h.eq a a).2 rfl
theorem IsCmp.le_lt {α : Type} {c : α → α → Int} (h : IsCmp c) {a b d : α} (h1 : c a b ≤ 0) (h2 : c b d < 0) : c a d < 0 := by
 rcases Int.lt_or_eq_of_le h1 with h1 | h1
 ·exact h.trans _ _ _ h1 h2
 ·rw [(h.eq _ _).1 h1]; exact h2
theorem IsCmp.lt_le {α : Type} {c : α → α → Int} (h : IsCmp c) {a b d : α} (h1 : c a b < 0) (h2 : c b d ≤ 0) : c a d < 0 := by
 rcases Int.lt_or_eq_of_le h2 with h2 | h2
 ·exact h.trans _ _ _ h1 h2
 ·rw [← (h.eq _ _).1 h2]; exact h1
theorem IsCmp.map {α β : Type} {c : α → α → Int} (h : IsCmp c) (f : β → α) (hf : ∀ a b, f a = f b → a = b) : IsCmp (fun a b => c (f a) (f b)) where
 eq := fun a b => by rw [h.eq]; exact ⟨hf a b, fun e => by rw [e]⟩
 anti := fun a b => h.anti _ _
 trans := fun a b d => h.trans _ _ _
def orI : List Int → Int
 | [] => 0
 | x :: l => if x ≠ 0 then x else orI l
theorem awe {L : List Int} {k : Nat} (hk : k < L.length) (h : ∀ j, (hj : j < k) → L[j]'(by omega) = 0) : orI L = if L[k] ≠ 0 then L[k] else orI (L.drop (k + 1)) := by
 induction k generalizing L with
 | zero => cases L with
  | nil => simp at hk
  | cons x L => rfl
 | succ k ih =>
  cases L with
  | nil => simp at hk
  | cons x L =>
   have h0 := h 0 (by omega); simp only [List.getElem_cons_zero] at h0; simp only [orI, h0, ne_eq, not_true, if_false, List.getElem_cons_succ, List.drop_succ_cons]; exact ih (by simpa using hk) (fun j hj => by have := h (j + 1) (by omega); simpa using this)
theorem awf {L : List Int} (h : ∀ j, (hj : j < L.length) → L[j] = 0) : orI L = 0 := by
 induction L with
 | nil => rfl
 | cons x L ih =>
  have h0 := h 0 (by simp); simp only [List.getElem_cons_zero] at h0; simp only [orI, h0, ne_eq, not_true, if_false]; exact ih (fun j hj => by have := h (j + 1) (by simpa using hj); simpa using this)
abbrev Xid := Int × ByteArray × ByteArray
def aav : Xid → Xid → Int := ay9 ad8 (ay9 abf abf)
theorem abu : IsCmp aav := atl adn (atl cmpB_ok cmpB_ok)
structure Ms where
 id : Int
 pr : Pr
 body : ByteArray
structure Qu where
 name : ByteArray
 limit : Int
 zw : List Ms
structure Br where
 x : Xn
 zu : List Pt
 zy : List Rf
structure He where
 x : Xn
 c : Bool
structure St where
 next : Int
 qs : List Qu
 zk : List Br
 hs : List He
def St.zero : St := ⟨0, [], [], []⟩
def adj {α : Type} (r : α → α → Bool) : List α → Bool
 | a :: b :: l => r a b && adj r (b :: l)
 | _ => true
theorem ahi {α : Type} {r : α → α → Bool} : ∀ {L : List α}, adj r L = true ↔ ∀ i, (h : i + 1 < L.length) → r (L[i]'(by omega)) L[i + 1] = true
 | [] => by simp [adj]
 | [a] => by simp [adj]
 | a :: b :: l => by
  rw [adj, jj, ahi]; constructor
  ·rintro ⟨h1, h2⟩ i h
   match i with
   | 0 => exact h1
   | i + 1 => exact h2 i (by simpa using h)
  ·intro h
   exact ⟨h 0 (by simp), fun i hi => h (i + 1) (by simpa using hi)⟩
theorem atm {α : Type} {r : α → α → Bool} (ht : ∀ a b c, r a b = true → r b c = true → r a c = true) : ∀ {L : List α}, adj r L = true ↔ L.Pairwise (fun a b => r a b = true)
 | [] => by simp [adj]
 | [a] => by simp [adj]
 | a :: b :: l => by
  rw [adj, jj, atm ht, List.pairwise_cons (a := a)]; constructor
  ·rintro ⟨h1, h2⟩
   refine ⟨fun c hc => ?_, h2⟩; rcases List.mem_cons.1 hc with rfl | hc
   ·exact h1
   ·exact ht _ _ _ h1 ((List.pairwise_cons.1 h2).1 c hc)
  ·rintro ⟨h1, h2⟩
   exact ⟨h1 b (List.mem_cons_self ..), h2⟩
def aia {α κ : Type} (c : κ → κ → Int) (k : α → κ) (L : List α) : Bool := adj (fun a b => decide (c (k a) (k b) < 0)) L
theorem ad4 {α κ : Type} {c : κ → κ → Int} (hc : IsCmp c) {k : α → κ} {L : List α} : aia c k L = true ↔ L.Pairwise (fun a b => c (k a) (k b) < 0) := by
 unfold aia
 rw [atm (fun a b d h1 h2 => by rw [qm] at *; exact hc.trans _ _ _ h1 h2)]
 simp only [qm]
def lbK {α κ : Type} (c : κ → κ → Int) (k : α → κ) (L : List α) (x : κ) : Nat := (L.takeWhile (fun a => decide (c (k a) x < 0))).length
def abj {α : Type} (L : List α) (i : Nat) (x : α) : List α := L.take i ++ x :: L.drop i
theorem aza {α κ : Type} (c : κ → κ → Int) (k : α → κ) (L : List α) (x : κ) : lbK c k L x ≤ L.length := (List.takeWhile_prefix _).length_le
theorem azb {α κ : Type} {c : κ → κ → Int} {k : α → κ} : ∀ {L : List α} {x : κ} {i : Nat}, i ≤ L.length → (∀ j, (h : j < L.length) → j < i → c (k L[j]) x < 0) → (∀ h : i < L.length, ¬ c (k L[i]) x < 0) → lbK c k L x = i
 | [], x, i, h, _, _ => by
  have : i = 0 := by simpa using h
  subst this; rfl
 | a :: L, x, 0, _, _, h2 => by
  have h := h2 (by simp); unfold lbK; rw [List.takeWhile_cons_of_neg (by simpa using h)]; rfl
 | a :: L, x, i + 1, h, h1, h2 => by
  have h0 := h1 0 (by simp) (by omega); have ih := azb (c := c) (k := k) (L := L) (x := x) (i := i) (by simpa using h) (fun j hj hi => h1 (j + 1) (by simpa using hj) (by omega)) (fun hi => h2 (by simpa using hi)); unfold lbK at ih ⊢; rw [List.takeWhile_cons_of_pos (by simpa using h0), jn, ih]
theorem ap9 {α κ : Type} {c : κ → κ → Int} (hc : IsCmp c) {k : α → κ} {x : α} : ∀ {L : List α}, L.Pairwise (fun a b => c (k a) (k b) < 0) → (∀ a ∈ L, k a ≠ k x) → (abj L (lbK c k L (k x)) x).Pairwise (fun a b => c (k a) (k b) < 0)
 | [], _, _ => by simp [abj, lbK]
 | a :: L, h, hn => by
  obtain ⟨h1, h2⟩ := List.pairwise_cons.1 h; by_cases hl : c (k a) (k x) < 0
  ·have ih := ap9 hc (k := k) (x := x) h2 (fun b hb => hn b (List.mem_cons_of_mem _ hb))
   have e : abj (a :: L) (lbK c k (a :: L) (k x)) x = a :: abj L (lbK c k L (k x)) x := by
    unfold abj lbK; rw [List.takeWhile_cons_of_pos (by simpa using hl)]; rfl
   rw [e]; refine List.pairwise_cons.2 ⟨fun b hb => ?_, ih⟩; unfold abj at hb; rcases List.mem_append.1 hb with hb | hb
   ·exact h1 b (List.mem_of_mem_take hb)
   ·rcases List.mem_cons.1 hb with rfl | hb
    ·exact hl
    ·exact h1 b (List.mem_of_mem_drop hb)
  ·have e : abj (a :: L) (lbK c k (a :: L) (k x)) x = x :: a :: L := by
    unfold abj lbK; rw [List.takeWhile_cons_of_neg (by simpa using hl)]; rfl
   rw [e]
   have hxa : c (k x) (k a) < 0 := by
    have h3 := hc.anti (k a) (k x); have h4 : c (k a) (k x) ≠ 0 := fun q => hn a (List.mem_cons_self ..) ((hc.eq _ _).1 q)
    omega
   refine List.pairwise_cons.2 ⟨fun b hb => ?_, h⟩; rcases List.mem_cons.1 hb with rfl | hb
   ·exact hxa
   ·exact hc.trans _ _ _ hxa (h1 b hb)
theorem ack {α : Type} {L : List α} {i : Nat} {x y : α} : y ∈ abj L i x ↔ y = x ∨ y ∈ L := by
 unfold abj
 rw [List.mem_append, List.mem_cons]
 have h : y ∈ L ↔ y ∈ L.take i ∨ y ∈ L.drop i := by
  conv => lhs; rw [← List.take_append_drop i L]
  exact List.mem_append
 rw [h]
 constructor
 ·rintro (h | h | h)
  ·exact .inr (.inl h)
  ·exact .inl h
  ·exact .inr (.inr h)
 ·rintro (h | h | h)
  ·exact .inr (.inl h)
  ·exact .inl h
  ·exact .inr (.inr h)
def Ms.okB (m : Ms) : Bool := decide (m.body.size ≤ 4096) && m.pr.smallB
def Qu.okB (n : Int) (q : Qu) : Bool := qn q.name && ah2 q.limit && q.zw.all (fun m => decide (1 ≤ m.id) && decide (m.id < n) && m.okB) && aia ad8 Ms.id q.zw
def Br.en (b : Br) : En := ⟨4, ⟨#[]⟩, 0, b.x, b.zu, b.zy⟩
def ad0 (qs : List Qu) (n : ByteArray) : Bool := qs.any (fun q => decide (q.name = n))
def Qu.hasM (q : Qu) (i : Int) : Bool := q.zw.any (fun m => decide (m.id = i))
def hasM (qs : List Qu) (r : Rf) : Bool := qs.any (fun q => decide (q.name = r.q) && q.hasM r.id)
def ace (zk : List Br) : List Rf := zk.flatMap Br.zy
def amu (zk : List Br) (x : Xn) : Bool := zk.any (fun b => decide (b.x = x))
def ard (hs : List He) (x : Xn) : Bool := hs.any (fun h => decide (h.x = x))
def ane (qs : List Qu) (zk : List Br) : Bool := zk.all (fun b => b.en.okB && b.zu.all (fun p => ad0 qs p.q) && b.zy.all (hasM qs)) && aem (ace zk) && aia aav Br.x zk
def hsB (zk : List Br) (hs : List He) : Bool := hs.all (fun h => Xn.okB h.x && !amu zk h.x) && aia aav He.x hs
def qsB (n : Int) (qs : List Qu) : Bool := qs.all (Qu.okB n) && aia abf Qu.name qs
def St.okB (s : St) : Bool := decide (1 ≤ s.next) && decide (s.next ≤ 1099511627777) && qsB s.next s.qs && ane s.qs s.zk && hsB s.zk s.hs
def St.chk (s : St) : Int := if s.okB then 0 else 140
theorem bbp (s : St) : s.chk = 0 ∨ s.chk = 140 := by unfold St.chk; split; exact .inl rfl; exact .inr rfl
theorem awg {s : St} : s.chk = 0 ↔ s.okB = true := by unfold St.chk; cases s.okB <;> simp
def amb (qs : List Qu) (n : ByteArray) (f : List Ms → List Ms) : List Qu := qs.map (fun q => if q.name = n then { q with zw := f q.zw } else q)
def ad9 (qs : List Qu) (r : Rf) : List Qu := amb qs r.q (fun l => l.filter (fun m => decide (m.id ≠ r.id)))
def aod (s : St) (p : Pt) : St := { s with qs := amb s.qs p.q (fun l => l ++ [⟨p.id, p.pr, p.body⟩]), next := p.id + 1 }
def Ms.mark (m : Ms) : Ms := { m with pr := { m.pr with red := true } }
def ao1 (qs : List Qu) (r : Rf) : List Qu := amb qs r.q (fun l => l.map (fun m => if m.id = r.id then m.mark else m))
def St.work (s : St) (zu : List Pt) (zy : List Rf) : St := zu.foldl aod { s with qs := zy.foldl ad9 s.qs }
def aen (qs : List Qu) : Int → List Pt → Int
 | _, [] => 0
 | n, p :: l => if ad0 qs p.q = false then 7 else if p.id < n then 9 else aen qs (p.id + 1) l
def abw (s : St) : List Rf → List Rf → Int
 | _, [] => 0
 | pre, r :: l => if hasM s.qs r = false ∨ 0 < aa8 pre r then 7 else if 0 < aa8 (ace s.zk) r then 9 else abw s (pre ++ [r]) l
def no (f : Int) : St × Int := (St.zero, f)
def St.queue (s : St) (e : En) : St × Int := if ad0 s.qs e.name = true then no 8 else ({ s with qs := abj s.qs (lbK abf Qu.name s.qs e.name) ⟨e.name, e.n, []⟩ }, 0)
def St.uses (s : St) (n : ByteArray) : Bool := s.zk.any (fun b => b.zu.any (fun p => decide (p.q = n)) || b.zy.any (fun r => decide (r.q = n)))
def St.drop (s : St) (e : En) : St × Int := if ad0 s.qs e.name = false then no 7 else if s.uses e.name = true then no 9 else ({ s with qs := s.qs.filter (fun q => decide (q.name ≠ e.name)) }, 0)
def St.doE (s : St) (e : En) : St × Int := if aen s.qs s.next e.zu ≠ 0 then no (aen s.qs s.next e.zu) else if abw s [] e.zy ≠ 0 then no (abw s [] e.zy) else (s.work e.zu e.zy, 0)
def St.prep (s : St) (e : En) : St × Int :=
 if amu s.zk e.x = true ∨ ard s.hs e.x = true then no 8 else if e.zu.all (fun p => ad0 s.qs p.q) = false then no 7 else if abw s [] e.zy ≠ 0 then no (abw s [] e.zy)
 else ({ s with zk := abj s.zk (lbK aav Br.x s.zk e.x) ⟨e.x, e.zu, e.zy⟩ }, 0)
def St.without (s : St) (x : Xn) : St := { s with zk := s.zk.filter (fun b => decide (b.x ≠ x)) }
def St.commit (s : St) (e : En) : St × Int :=
 match s.zk.find? (fun b => decide (b.x = e.x)) with
 | none => no 7
 | some b => if b.zu ≠ [] ∧ e.n ≠ s.next then no 9 else if 1099511627777 < s.next + b.zu.length then no 6 else ((s.without e.x).work (afg b.zu s.next) b.zy, 0)
def St.back (s : St) (e : En) : St × Int :=
 match s.zk.find? (fun b => decide (b.x = e.x)) with
 | none => no 7
 | some b => ({ s.without e.x with qs := b.zy.foldl ao1 s.qs }, 0)
def St.keep (s : St) (x : Xn) (c : Bool) : St := { s with hs := abj s.hs (lbK aav He.x s.hs x) ⟨x, c⟩ }
def ao2 (r : St × Int) (x : Xn) (c : Bool) : St × Int := if r.2 = 0 then (r.1.keep x c, 0) else r
def St.forget (s : St) (e : En) : St × Int := if ard s.hs e.x = false then no 7 else ({ s with hs := s.hs.filter (fun h => decide (h.x ≠ e.x)) }, 0)
def St.kind (s : St) (e : En) : St × Int :=
 if e.kind = 1 then s.queue e else if e.kind = 2 then s.drop e else if e.kind = 3 then s.doE e else if e.kind = 4 then s.prep e else if e.kind = 5 then s.commit e else if e.kind = 6 then s.back e
 else if e.kind = 7 then ao2 (s.commit e) e.x true else if e.kind = 8 then ao2 (s.back e) e.x false else s.forget e
def St.ap (s : St) (e : En) : St × Int := if s.okB = false then no 140 else if e.okB = false then no 130 else s.kind e
structure Qu.Rt (n : Int) (q : Qu) : Prop where
 nm : qn q.name = true
 lm : ah2 q.limit = true
 ms : ∀ m ∈ q.zw, 1 ≤ m.id ∧ m.id < n ∧ m.okB = true
 rs : q.zw.Pairwise (fun a b => a.id < b.id)
theorem azc {a b : Int} : ad8 a b < 0 ↔ a < b := by unfold ad8; split <;> (try split) <;> omega
theorem awh {n : Int} {q : Qu} : q.okB n = true ↔ q.Rt n := by
 unfold Qu.okB
 simp only [jj, jt, qm, ad4 adn, azc]
 exact ⟨fun ⟨⟨⟨a, b⟩, c⟩, d⟩ => ⟨a, b, fun m hm => ⟨(c m hm).1.1, (c m hm).1.2, (c m hm).2⟩, d⟩, fun h => ⟨⟨⟨h.nm, h.lm⟩, fun m hm => ⟨⟨(h.ms m hm).1, (h.ms m hm).2.1⟩, (h.ms m hm).2.2⟩⟩, h.rs⟩⟩
structure St.Rt (s : St) : Prop where
 n0 : 1 ≤ s.next
 n1 : s.next ≤ 1099511627777
 q : ∀ q ∈ s.qs, q.Rt s.next
 qa : s.qs.Pairwise (fun a b => abf a.name b.name < 0)
 b : ∀ b ∈ s.zk, b.en.okB = true ∧ (∀ p ∈ b.zu, ad0 s.qs p.q = true) ∧ ∀ r ∈ b.zy, hasM s.qs r = true
 bt : aem (ace s.zk) = true
 ba : s.zk.Pairwise (fun a b => aav a.x b.x < 0)
 h : ∀ h ∈ s.hs, Xn.okB h.x = true ∧ amu s.zk h.x = false
 ha : s.hs.Pairwise (fun a b => aav a.x b.x < 0)
theorem ao3 {s : St} : s.okB = true ↔ s.Rt := by
 unfold St.okB qsB ane hsB
 simp only [jj, jt, qm, ad4 cmpB_ok, ad4 abu, awh, Bool.not_eq_true']
 exact ⟨fun ⟨⟨⟨⟨a, b⟩, c, d⟩, ⟨e, f⟩, g⟩, h, i⟩ => ⟨a, b, c, d, fun x hx => ⟨(e x hx).1.1, (e x hx).1.2, (e x hx).2⟩, f, g, h, i⟩, fun r => ⟨⟨⟨⟨r.n0, r.n1⟩, r.q, r.qa⟩, ⟨fun x hx => ⟨⟨(r.b x hx).1, (r.b x hx).2.1⟩, (r.b x hx).2.2⟩, r.bt⟩, r.ba⟩, r.h, r.ha⟩⟩
theorem ag4 {qs : List Qu} {n : ByteArray} : ad0 qs n = true ↔ ∃ q ∈ qs, q.name = n := by simp [ad0]
theorem awi {l : List Br} {x : Xn} : amu l x = true ↔ ∃ b ∈ l, b.x = x := by simp [amu]
theorem awj {l : List He} {x : Xn} : ard l x = true ↔ ∃ b ∈ l, b.x = x := by simp [ard]
theorem ad1 {qs : List Qu} {r : Rf} : hasM qs r = true ↔ ∃ q ∈ qs, q.name = r.q ∧ ∃ m ∈ q.zw, m.id = r.id := by simp [hasM, Qu.hasM]
theorem ae5 {l : List Br} {x : Xn} : amu l x = false ↔ ∀ b ∈ l, b.x ≠ x := by simp [amu]
theorem ao4 {l : List He} {x : Xn} : ard l x = false ↔ ∀ b ∈ l, b.x ≠ x := by simp [ard]
theorem azd {qs : List Qu} {n : ByteArray} : ad0 qs n = false ↔ ∀ q ∈ qs, q.name ≠ n := by simp [ad0]
theorem aqa {qs : List Qu} {n : ByteArray} {f : List Ms → List Ms} {q : Qu} : q ∈ amb qs n f ↔ ∃ p ∈ qs, q = if p.name = n then { p with zw := f p.zw } else p := by
 unfold amb; rw [jv]; exact ⟨fun ⟨p, h, e⟩ => ⟨p, h, e.symm⟩, fun ⟨p, h, e⟩ => ⟨p, h, e.symm⟩⟩
theorem ae6 (p : Qu) (n : ByteArray) (f : List Ms → List Ms) : (if p.name = n then { p with zw := f p.zw } else p : Qu).name = p.name := by split <;> rfl
theorem aze {qs : List Qu} {n : ByteArray} {f : List Ms → List Ms} (h : qs.Pairwise (fun a b => abf a.name b.name < 0)) : (amb qs n f).Pairwise (fun a b => abf a.name b.name < 0) := by
 unfold amb
 rw [List.pairwise_map]
 exact h.imp (fun {a b} hab => by rw [ae6, ae6]; exact hab)
theorem atn {qs : List Qu} {n m : ByteArray} {f : List Ms → List Ms} : ad0 (amb qs n f) m = ad0 qs m := by
 unfold ad0 amb
 rw [List.any_map]
 congr 1
 funext q
 simp only [Function.comp, ae6]
theorem ajm {qs : List Qu} {n : ByteArray} {f : List Ms → List Ms} {r : Rf} (h : hasM qs r = true) (hf : r.q = n → ∀ l : List Ms, (∃ m ∈ l, m.id = r.id) → ∃ m ∈ f l, m.id = r.id) : hasM (amb qs n f) r = true := by
 obtain ⟨q, hq, hn, hm⟩ := ad1.1 h
 refine ad1.2 ⟨_, aqa.2 ⟨q, hq, rfl⟩, (ae6 ..).trans hn, ?_⟩
 by_cases e : q.name = n
 ·rw [qw e]; exact hf (hn.symm.trans e) _ hm
 ·rw [qk e]; exact hm
theorem ao5 {s : St} (h : s.Rt) {n : ByteArray} {f : List Ms → List Ms} {nx : Int} (hn0 : s.next ≤ nx) (hn1 : nx ≤ 1099511627777)
 (hf : ∀ q ∈ s.qs, q.name = n → (∀ m ∈ f q.zw, 1 ≤ m.id ∧ m.id < nx ∧ m.okB = true) ∧ (f q.zw).Pairwise (fun a b => a.id < b.id))
 (hm : ∀ r, 0 < aa8 (ace s.zk) r → r.q = n → ∀ l : List Ms, (∃ m ∈ l, m.id = r.id) → ∃ m ∈ f l, m.id = r.id) : St.Rt { s with qs := amb s.qs n f, next := nx } where
 n0 := Int.le_trans h.n0 hn0
 n1 := hn1
 q := fun q hq => by
  obtain ⟨p, hp, rfl⟩ := aqa.1 hq; have hr := h.q p hp; by_cases e : p.name = n
  ·rw [qw e]; exact ⟨hr.nm, hr.lm, (hf p hp e).1, (hf p hp e).2⟩
  ·rw [qk e]; exact ⟨hr.nm, hr.lm, fun m hm => ⟨(hr.ms m hm).1, Int.lt_of_lt_of_le (hr.ms m hm).2.1 hn0, (hr.ms m hm).2.2⟩, hr.rs⟩
 qa := aze h.qa
 b := fun b hb => ⟨(h.b b hb).1, fun p hp => by rw [atn]; exact (h.b b hb).2.1 p hp, fun r hr => ajm ((h.b b hb).2.2 r hr) (fun e => hm r (abq.2 (List.mem_flatMap.2 ⟨b, hb, hr⟩)) e)⟩
 bt := h.bt
 ba := h.ba
 h := h.h
 ha := h.ha
theorem awk {s : St} (h : s.Rt) {r : Rf} (hr : aa8 (ace s.zk) r = 0) : St.Rt { s with qs := ad9 s.qs r } := by
 refine ao5 h (n := r.q) (Int.le_refl _) h.n1 (fun q hq e => ⟨fun m hm => (h.q q hq).ms m (List.mem_filter.1 hm).1, (h.q q hq).rs.filter _⟩) (fun t ht e l ⟨m, hm, hi⟩ => ⟨m, List.mem_filter.2 ⟨hm, ?_⟩, hi⟩)
 rw [qm]
 intro hx
 have : t = r := by obtain ⟨a, b⟩ := t; obtain ⟨c, d⟩ := r; dsimp only at *; subst e; rw [← hi, hx]
 rw [this] at ht; omega
theorem amc : ∀ {l : List Rf} {s : St}, s.Rt → (∀ r ∈ l, aa8 (ace s.zk) r = 0) → St.Rt { s with qs := l.foldl ad9 s.qs }
 | [], s, h, _ => h
 | r :: l, s, h, hl => amc (l := l) (s := { s with qs := ad9 s.qs r }) (awk h (hl r (List.mem_cons_self ..))) (fun t ht => hl t (List.mem_cons_of_mem _ ht))
theorem azf {s : St} (h : s.Rt) {p : Pt} (h0 : s.next ≤ p.id) (h1 : p.id ≤ 1099511627776) (hb : p.body.size ≤ 4096) (hp : p.pr.smallB = true) : (aod s p).Rt := by
 refine ao5 h (n := p.q) (by omega) (by omega) (fun q hq e => ⟨fun m hm => ?_, ?_⟩) (fun t ht e l ⟨m, hm, hi⟩ => ⟨m, List.mem_append_left _ hm, hi⟩)
 ·rcases List.mem_append.1 hm with hm | hm
  ·have := (h.q q hq).ms m hm; exact ⟨this.1, by omega, this.2.2⟩
  ·rw [jc.1 hm]
   refine ⟨?_, ?_, ?_⟩
   ·show 1 ≤ p.id; have := h.n0; omega
   ·show p.id < p.id + 1; omega
   ·unfold Ms.okB; rw [jj, qm]; exact ⟨hb, hp⟩
 ·rw [List.pairwise_append]
  refine ⟨(h.q q hq).rs, List.pairwise_singleton .., fun a ha b hb => ?_⟩; rw [jc.1 hb]; have := ((h.q q hq).ms a ha).2.1; show a.id < p.id
  omega
theorem aqb {num : Bool} {p : Pt} (h : Pt.okB num p = true) : p.body.size ≤ 4096 ∧ p.pr.smallB = true := by
 unfold Pt.okB at h
 simp only [jj, qm] at h
 exact ⟨h.1.2, h.2⟩
theorem bbq {p : Pt} (h : Pt.okB true p = true) : 1 ≤ p.id ∧ p.id ≤ 1099511627776 := by
 unfold Pt.okB at h
 simp only [jj, qm, beq_iff_eq, ah2] at h
 exact h.1.1.1.2
theorem ao6 : ∀ {l : List Pt} {s : St} {qs : List Qu}, s.Rt → aen qs s.next l = 0 → (∀ p ∈ l, Pt.okB true p = true) → (l.foldl aod s).Rt
 | [], s, qs, h, _, _ => h
 | p :: l, s, qs, h, he, hl => by
  unfold aen at he; by_cases h1 : ad0 qs p.q = false
  ·rw [qw h1] at he; omega
  ·rw [qk h1] at he
   by_cases h2 : p.id < s.next
   ·rw [qw h2] at he; omega
   ·rw [qk h2] at he
    have ho := hl p (List.mem_cons_self ..); exact ao6 (l := l) (s := aod s p) (qs := qs) (azf h (by omega) (bbq ho).2 (aqb ho).1 (aqb ho).2) he (fun t ht => hl t (List.mem_cons_of_mem _ ht))
theorem ae7 {s : St} : ∀ {l pre : List Rf}, abw s pre l = 0 → (∀ r ∈ l, hasM s.qs r = true ∧ aa8 (ace s.zk) r = 0 ∧ aa8 pre r = 0 ∧ aa8 l r = 1)
 | [], pre, _, r, hr => by cases hr
 | t :: l, pre, h, r, hr => by
  unfold abw at h; by_cases h1 : hasM s.qs t = false ∨ 0 < aa8 pre t
  ·rw [qw h1] at h; omega
  ·rw [qk h1] at h
   by_cases h2 : 0 < aa8 (ace s.zk) t
   ·rw [qw h2] at h; omega
   ·rw [qk h2] at h
    have h3 : hasM s.qs t = true := by cases hh : hasM s.qs t; exact jp (.inl hh) h1; rfl
    have h4 : aa8 pre t = 0 := by have := mt Or.inr h1; omega
    have ih := ae7 (l := l) h; have e : ∀ y, aa8 (pre ++ [t]) y = aa8 pre y + if acz t y = true then 1 else 0 := fun y => by rw [aa6, acw, adb]; omega
    have hn : t ∉ l := fun ht => by have := (ih t ht).2.2.1; rw [e t, qw (abt.2 rfl)] at this; omega
    have h0 : aa8 l t = 0 := by have := mt abq.1 hn; omega
    rcases List.mem_cons.1 hr with rfl | hr
    ·exact ⟨h3, by omega, h4, by rw [acw, qw (abt.2 rfl), h0]⟩
    ·have q := ih r hr
     have q3 := q.2.2.1; rw [e r] at q3; have hne : ¬ acz t r = true := fun hh => by rw [qw hh] at q3; omega
     rw [qk hne] at q3; exact ⟨q.1, q.2.1, by omega, by rw [acw, qk hne]; exact q.2.2.2⟩
theorem ato : ∀ {l : List Pt} {n : Int} {qs : List Qu}, (∀ p ∈ l, ad0 qs p.q = true) → aen qs n (afg l n) = 0
 | [], n, qs, _ => rfl
 | p :: l, n, qs, h => by
  unfold afg aen; rw [qk (by rw [show ({ p with id := n } : Pt).q = p.q from rfl, h p (List.mem_cons_self ..)]; simp), qk (by show ¬ n < n; omega)]; exact ato (fun t ht => h t (List.mem_cons_of_mem _ ht))
theorem bbr {s : St} (h : s.Rt) {e : En} (hk : e.kind = 3) (he : e.okB = true) (h0 : (s.doE e).2 = 0) : (s.doE e).1.Rt := by
 unfold St.doE at h0 ⊢
 by_cases h1 : aen s.qs s.next e.zu ≠ 0
 ·rw [qw h1] at h0; exact jp h0 h1
 ·rw [qk h1] at h0 ⊢
  by_cases h2 : abw s [] e.zy ≠ 0
  ·rw [qw h2] at h0; exact jp h0 h2
  ·rw [qk h2]
   have hp : ∀ p ∈ e.zu, Pt.okB true p = true := by
    unfold En.okB at he; rw [hk] at he; simp only [jj, jt] at he; exact he.1.2
   have ht := ae7 (Decidable.of_not_not h2); exact ao6 (qs := s.qs) (amc h (fun r hr => (ht r hr).2.1)) (Decidable.of_not_not h1) hp
theorem aeo {s : St} {x : Xn} {b : Br} : b ∈ (s.without x).zk ↔ b ∈ s.zk ∧ b.x ≠ x := by unfold St.without; rw [List.mem_filter, qm]
theorem aqc {l : List Br} {f : Br → Bool} {r : Rf} : aa8 (ace (l.filter f)) r ≤ aa8 (ace l) r := by
 induction l with
 | nil => exact qj _
 | cons b l ih =>
  have e : ∀ b (l : List Br), aa8 (ace (b :: l)) r = aa8 b.zy r + aa8 (ace l) r := fun b l => by show aa8 (b.zy ++ ace l) r = _; rw [aa6]
  rw [List.filter_cons]; split
  ·rw [e, e]; omega
  ·rw [e]; omega
theorem ali {s : St} (h : s.Rt) (x : Xn) : (s.without x).Rt where
 n0 := h.n0
 n1 := h.n1
 q := h.q
 qa := h.qa
 b := fun b hb => h.b b (aeo.1 hb).1
 bt := by
  unfold aem; rw [jt]; intro r hr; rw [qm]; have h1 := h.bt; unfold aem at h1; rw [jt] at h1; refine jk aqc (qt (h1 r ?_)); obtain ⟨b, hb, hrb⟩ := List.mem_flatMap.1 hr; exact List.mem_flatMap.2 ⟨b, (aeo.1 hb).1, hrb⟩
 ba := h.ba.filter _
 h := fun y hy => ⟨(h.h y hy).1, ae5.2 (fun b hb => ae5.1 (h.h y hy).2 b (aeo.1 hb).1)⟩
 ha := h.ha
theorem amd {l : List Rf} (h : aem l = true) (r : Rf) : aa8 l r ≤ 1 := by
 rcases Nat.eq_zero_or_pos (aa8 l r) with e | e
 ·omega
 ·unfold aem at h; rw [jt] at h; exact qt (h r (abq.1 e))
theorem anf {s : St} (h : s.Rt) {b : Br} (hb : b ∈ s.zk) {r : Rf} (hr : r ∈ b.zy) : aa8 (ace (s.without b.x).zk) r = 0 := by
 have h1 := amd h.bt r
 have h2 : 0 < aa8 b.zy r := abq.2 hr
 have key : ∀ (l : List Br), b ∈ l → aa8 (ace (l.filter (fun c => decide (c.x ≠ b.x)))) r + aa8 b.zy r ≤ aa8 (ace l) r := by
  intro l; have e : ∀ b (l : List Br), aa8 (ace (b :: l)) r = aa8 b.zy r + aa8 (ace l) r := fun b l => by show aa8 (b.zy ++ ace l) r = _; rw [aa6]
  induction l with
  | nil => intro h; cases h
  | cons c l ih =>
   intro hc; rw [List.filter_cons]; by_cases hx : c.x = b.x
   ·rw [qk (by simp [hx]), e]
    rcases List.mem_cons.1 hc with rfl | hc
    ·have := aqc (l := l) (f := fun c => decide (c.x ≠ b.x)) (r := r); omega
    ·have := ih hc; omega
   ·rw [qw (by simp [hx]), e, e]
    rcases List.mem_cons.1 hc with rfl | hc
    ·exact jp rfl hx
    ·have := ih hc; omega
 have := key s.zk hb
 show aa8 (ace (s.zk.filter _)) r = 0
 omega
theorem atp {l : List Br} {x : Xn} {b : Br} (h : l.find? (fun b => decide (b.x = x)) = some b) : b ∈ l ∧ b.x = x := ⟨List.mem_of_find?_eq_some h, by have := List.find?_some h; simpa using this⟩
theorem ame {b : Br} (h : b.en.okB = true) : (∀ p ∈ b.zu, Pt.okB false p = true) ∧ b.zu.length ≤ 100 ∧ b.zy.length ≤ 100 ∧ Xn.okB b.x = true ∧ ∀ r ∈ b.zy, Rf.okB r = true := by
 unfold En.okB Br.en at h
 simp only [jj, jt, qm] at h
 obtain ⟨⟨⟨⟨⟨⟨⟨⟨-, -⟩, -⟩, h3⟩, -⟩, h5⟩, h6⟩, h7⟩, h8⟩ := h
 exact ⟨h7, h5, h6, h3, h8⟩
theorem ang {s : St} (h : s.Rt) {e : En} (h0 : (s.commit e).2 = 0) : (s.commit e).1.Rt := by
 unfold St.commit at h0 ⊢
 cases hf : s.zk.find? (fun b => decide (b.x = e.x)) with
 | none => rw [hf] at h0; exact jp h0 (by simp [no])
 | some b =>
  rw [hf] at h0; dsimp only at h0 ⊢; obtain ⟨hb, hx⟩ := atp hf; by_cases h1 : b.zu ≠ [] ∧ e.n ≠ s.next
  ·rw [qw h1] at h0; exact jp h0 (by simp [no])
  ·rw [qk h1] at h0 ⊢
   by_cases h2 : 1099511627777 < s.next + b.zu.length
   ·rw [qw h2] at h0; exact jp h0 (by simp [no])
   ·rw [qk h2]
    have hq := h.b b hb; have hp := ame hq.1; have hw := amc (l := b.zy) (ali h e.x) (fun r hr => by rw [← hx]; exact anf h hb hr); exact ao6 (qs := s.qs) hw (ato hq.2.1) (ao0 h.n0 (by omega) hp.1)
theorem azg {m : Ms} (h : m.okB = true) : m.mark.okB = true := by
 unfold Ms.okB Ms.mark at *
 simp only [jj, qm] at *
 refine ⟨h.1, ?_⟩
 have h2 := h.2
 unfold Pr.smallB at h2 ⊢
 simp only [jj, qm] at *
 refine ⟨?_, ?_⟩
 ·rw [akr] at *; exact h2.1
 ·refine jk (Nat.le_of_eq ?_) h2.2
  unfold Pr.bytes part aoh ahf; simp only [jz, aao, jn, List.length_nil]; have e : fl2 { m.pr with red := true } = fl2 m.pr := rfl; rw [e]
theorem azh {s : St} (h : s.Rt) (r : Rf) : St.Rt { s with qs := ao1 s.qs r } := by
 refine ao5 h (n := r.q) (Int.le_refl _) h.n1 (fun q hq e => ⟨fun m hm => ?_, ?_⟩) (fun t ht e l ⟨m, hm, hi⟩ => ⟨_, jv.2 ⟨m, hm, rfl⟩, by split <;> exact hi⟩)
 ·obtain ⟨y, hy, rfl⟩ := jv.1 hm
  have := (h.q q hq).ms y hy; split
  ·exact ⟨this.1, this.2.1, azg this.2.2⟩
  ·exact this
 ·rw [List.pairwise_map]
  have e : ∀ m : Ms, (if m.id = r.id then m.mark else m).id = m.id := fun m => by split <;> rfl
  exact (h.q q hq).rs.imp (fun {a b} hab => by rw [e, e]; exact hab)
theorem atq : ∀ {l : List Rf} {s : St}, s.Rt → St.Rt { s with qs := l.foldl ao1 s.qs }
 | [], s, h => h
 | r :: l, s, h => atq (l := l) (s := { s with qs := ao1 s.qs r }) (azh h r)
theorem atr {s : St} (h : s.Rt) {e : En} (h0 : (s.back e).2 = 0) : (s.back e).1.Rt := by
 unfold St.back at h0 ⊢
 cases hf : s.zk.find? (fun b => decide (b.x = e.x)) with
 | none => rw [hf] at h0; exact jp h0 (by simp [no])
 | some b => exact atq (ali h e.x)
theorem adw {P : Prop} (h : P := by
 rw [qw h1] at h0; exact jp h0 (by simp [no])) : P := h
theorem awl {s : St} (h : s.Rt) {e : En} (hk : e.kind = 1) (he : e.okB = true) (h0 : (s.queue e).2 = 0) : (s.queue e).1.Rt := by
 unfold St.queue at h0 ⊢
 by_cases h1 : ad0 s.qs e.name = true
 ·exact adw
 ·rw [qk h1]
  have hne : ∀ q ∈ s.qs, q.name ≠ e.name := azd.1 (by simpa using h1)
  have ho : qn e.name = true ∧ ah2 e.n = true := by
   unfold En.okB at he; rw [hk] at he; simp only [jj] at he; exact ⟨he.1.1.1.1.1.1.1.2, he.1.1.1.1.1.1.2⟩
  refine ⟨h.n0, h.n1, fun q hq => ?_, ap9 (x := (⟨e.name, e.n, []⟩ : Qu)) cmpB_ok h.qa hne, fun b hb => ⟨(h.b b hb).1, fun p hp => ?_, fun r hr => ?_⟩, h.bt, h.ba, h.h, h.ha⟩
  ·rcases ack.1 hq with rfl | hq
   ·exact ⟨ho.1, ho.2, (fun m hm => by cases hm), List.Pairwise.nil⟩
   ·exact h.q q hq
  ·obtain ⟨q, hq, e⟩ := ag4.1 ((h.b b hb).2.1 p hp)
   exact ag4.2 ⟨q, ack.2 (.inr hq), e⟩
  ·obtain ⟨q, hq, e⟩ := ad1.1 ((h.b b hb).2.2 r hr)
   exact ad1.2 ⟨q, ack.2 (.inr hq), e⟩
theorem azi {s : St} (h : s.Rt) {e : En} (h0 : (s.drop e).2 = 0) : (s.drop e).1.Rt := by
 unfold St.drop at h0 ⊢
 by_cases h1 : ad0 s.qs e.name = false
 ·exact adw
 ·rw [qk h1] at h0 ⊢
  by_cases h2 : s.uses e.name = true
  ·rw [qw h2] at h0; exact jp h0 (by simp [no])
  ·rw [qk h2]
   have hu : ∀ b ∈ s.zk, (∀ p ∈ b.zu, p.q ≠ e.name) ∧ ∀ r ∈ b.zy, r.q ≠ e.name := by
    intro b hb; have h3 : s.uses e.name = false := by simpa using h2
    unfold St.uses at h3; rw [List.any_eq_false] at h3; have h4 := h3 b hb; simp only [Bool.or_eq_true, List.any_eq_true, qm, not_or, not_exists, not_and] at h4; exact ⟨fun p hp q => h4.1 p hp q, fun r hr q => h4.2 r hr q⟩
   refine ⟨h.n0, h.n1, fun q hq => h.q q (List.mem_filter.1 hq).1, h.qa.filter _, fun b hb => ⟨(h.b b hb).1, fun p hp => ?_, fun r hr => ?_⟩, h.bt, h.ba, h.h, h.ha⟩
   ·obtain ⟨q, hq, e2⟩ := ag4.1 ((h.b b hb).2.1 p hp)
    exact ag4.2 ⟨q, List.mem_filter.2 ⟨hq, qp (by rw [e2]; exact (hu b hb).1 p hp)⟩, e2⟩
   ·obtain ⟨q, hq, e2, e3⟩ := ad1.1 ((h.b b hb).2.2 r hr)
    exact ad1.2 ⟨q, List.mem_filter.2 ⟨hq, qp (by rw [e2]; exact (hu b hb).2 r hr)⟩, e2, e3⟩
theorem awm {l : List Br} {i : Nat} {b : Br} {r : Rf} : aa8 (ace (abj l i b)) r = aa8 (ace l) r + aa8 b.zy r := by
 have e : ace l = ace (l.take i) ++ ace (l.drop i) := by unfold ace; rw [← List.flatMap_append, List.take_append_drop]
 have e2 : ace (abj l i b) = ace (l.take i) ++ (b.zy ++ ace (l.drop i)) := by unfold abj ace; rw [List.flatMap_append, List.flatMap_cons]
 rw [e, e2]
 simp only [aa6]
 omega
theorem azj {s : St} (h : s.Rt) {e : En} (hk : e.kind = 4) (he : e.okB = true) (h0 : (s.prep e).2 = 0) : (s.prep e).1.Rt := by
 unfold St.prep at h0 ⊢
 by_cases h1 : amu s.zk e.x = true ∨ ard s.hs e.x = true
 ·exact adw
 ·rw [qk h1] at h0 ⊢
  by_cases h2 : e.zu.all (fun p => ad0 s.qs p.q) = false
  ·rw [qw h2] at h0; exact jp h0 (by simp [no])
  ·rw [qk h2] at h0 ⊢
   by_cases h3 : abw s [] e.zy ≠ 0
   ·rw [qw h3] at h0; exact jp h0 h3
   ·rw [qk h3]
    have hB : ∀ b ∈ s.zk, b.x ≠ e.x := ae5.1 (by have := mt Or.inl h1; simpa using this)
    have hH : ∀ b ∈ s.hs, b.x ≠ e.x := ao4.1 (by have := mt Or.inr h1; simpa using this)
    have hP : ∀ p ∈ e.zu, ad0 s.qs p.q = true := by
     have : e.zu.all (fun p => ad0 s.qs p.q) = true := by simpa using h2
     rw [jt] at this; exact this
    have hT := ae7 (Decidable.of_not_not h3)
    have hO : (Br.mk e.x e.zu e.zy).en.okB = true := by
     obtain ⟨k, nm, n, x, ps, ts⟩ := e; dsimp only at hk; subst hk; unfold En.okB Br.en at *; simp only [jj] at he ⊢; obtain ⟨⟨⟨⟨⟨⟨⟨⟨a, b⟩, c⟩, d⟩, f⟩, g⟩, i⟩, j⟩, k⟩ := he; exact ⟨⟨⟨⟨⟨⟨⟨⟨a, rfl⟩, rfl⟩, d⟩, f⟩, g⟩, i⟩, j⟩, k⟩
    refine ⟨h.n0, h.n1, h.q, h.qa, fun b hb => ?_, ?_, ap9 (x := (⟨e.x, e.zu, e.zy⟩ : Br)) abu h.ba hB, fun y hy => ⟨(h.h y hy).1, ae5.2 (fun b hb => ?_)⟩, h.ha⟩
    ·rcases ack.1 hb with rfl | hb
     ·exact ⟨hO, hP, fun r hr => (hT r hr).1⟩
     ·exact h.b b hb
    ·unfold aem
     rw [jt]; intro r hr; rw [qm, awm]; have h4 := amd h.bt r; rcases Nat.eq_zero_or_pos (aa8 e.zy r) with q | q
     ·show _ + aa8 e.zy r ≤ 1; omega
     ·have := hT r (abq.1 q); show _ + aa8 e.zy r ≤ 1; omega
    ·rcases ack.1 hb with rfl | hb
     ·exact fun q => hH y hy q.symm
     ·exact ae5.1 (h.h y hy).2 b hb
theorem azk {s : St} (h : s.Rt) {x : Xn} {c : Bool} (hx : Xn.okB x = true) (hB : amu s.zk x = false) (hH : ard s.hs x = false) : (s.keep x c).Rt := by
 refine ⟨h.n0, h.n1, h.q, h.qa, h.b, h.bt, h.ba, fun y hy => ?_, ap9 (x := (⟨x, c⟩ : He)) abu h.ha (ao4.1 hH)⟩
 rcases ack.1 hy with rfl | hy
 ·exact ⟨hx, hB⟩
 ·exact h.h y hy
theorem ats {s : St} (h : s.Rt) {e : En} (h0 : (s.forget e).2 = 0) : (s.forget e).1.Rt := by
 unfold St.forget at h0 ⊢
 by_cases h1 : ard s.hs e.x = false
 ·exact adw
 ·rw [qk h1]
  exact ⟨h.n0, h.n1, h.q, h.qa, h.b, h.bt, h.ba, fun y hy => h.h y (List.mem_filter.1 hy).1, h.ha.filter _⟩
theorem anh {l : List Pt} {s : St} : (l.foldl aod s).zk = s.zk ∧ (l.foldl aod s).hs = s.hs := by
 induction l generalizing s with
 | nil => exact ⟨rfl, rfl⟩
 | cons p l ih => exact ih (s := aod s p)
theorem awn {s : St} (h : s.Rt) {e : En} {r : St × Int} (hr : r = s.commit e ∨ r = s.back e) (h0 : r.2 = 0) : Xn.okB e.x = true ∧ amu r.1.zk e.x = false ∧ ard r.1.hs e.x = false := by
 have key : ∀ b, s.zk.find? (fun b => decide (b.x = e.x)) = some b → ∀ t : St, t.zk = (s.without e.x).zk → t.hs = s.hs → Xn.okB e.x = true ∧ amu t.zk e.x = false ∧ ard t.hs e.x = false := by
  intro b hf t h1 h2; obtain ⟨hb, hx⟩ := atp hf; refine ⟨by rw [← hx]; exact (ame (h.b b hb).1).2.2.2.1, ae5.2 (fun c hc => ?_), ao4.2 (fun y hy q => ?_)⟩
  ·rw [h1] at hc; exact (aeo.1 hc).2
  ·rw [h2] at hy
   exact ae5.1 (h.h y hy).2 b hb (hx.trans q.symm)
 rcases hr with rfl | rfl
 ·unfold St.commit at h0 ⊢
  cases hf : s.zk.find? (fun b => decide (b.x = e.x)) with
  | none => rw [hf] at h0; exact jp h0 (by simp [no])
  | some b =>
   rw [hf] at h0; dsimp only at h0 ⊢; by_cases h1 : b.zu ≠ [] ∧ e.n ≠ s.next
   ·rw [qw h1] at h0; exact jp h0 (by simp [no])
   ·rw [qk h1] at h0 ⊢
    by_cases h2 : 1099511627777 < s.next + b.zu.length
    ·rw [qw h2] at h0; exact jp h0 (by simp [no])
    ·rw [qk h2]
     exact key b hf _ anh.1 anh.2
 ·unfold St.back at h0 ⊢
  cases hf : s.zk.find? (fun b => decide (b.x = e.x)) with
  | none => rw [hf] at h0; exact jp h0 (by simp [no])
  | some b => exact key b hf _ rfl rfl
theorem aqd {s : St} (h : s.Rt) {e : En} {r : St × Int} {c : Bool} (hr : r = s.commit e ∨ r = s.back e) (h0 : (ao2 r e.x c).2 = 0) : (ao2 r e.x c).1.Rt := by
 unfold ao2 at h0 ⊢
 by_cases h1 : r.2 = 0
 ·rw [qw h1]
  have hf := awn h hr h1; refine azk ?_ hf.1 hf.2.1 hf.2.2; rcases hr with rfl | rfl
  ·exact ang h h1
  ·exact atr h h1
 ·rw [qk h1] at h0; exact jp h0 h1
theorem azl {s : St} {e : En} (h0 : (s.ap e).2 = 0) : (s.ap e).1.Rt := by
 unfold St.ap at h0 ⊢
 by_cases h1 : s.okB = false
 ·exact adw
 ·rw [qk h1] at h0 ⊢
  have hs : s.Rt := ao3.1 (by simpa using h1); by_cases h2 : e.okB = false
  ·rw [qw h2] at h0; exact jp h0 (by simp [no])
  ·rw [qk h2] at h0 ⊢
   have he : e.okB = true := by simpa using h2
   unfold St.kind at h0 ⊢; split at h0
   ·rename_i k; rw [qw k]; exact awl hs k he h0
   ·rename_i k1; rw [qk k1]
    split at h0
    ·rename_i k; rw [qw k]; exact azi hs h0
    ·rename_i k2; rw [qk k2]
     split at h0
     ·rename_i k; rw [qw k]; exact bbr hs k he h0
     ·rename_i k3; rw [qk k3]
      split at h0
      ·rename_i k; rw [qw k]; exact azj hs k he h0
      ·rename_i k4; rw [qk k4]
       split at h0
       ·rename_i k; rw [qw k]; exact ang hs h0
       ·rename_i k5; rw [qk k5]
        split at h0
        ·rename_i k; rw [qw k]; exact atr hs h0
        ·rename_i k6; rw [qk k6]
         split at h0
         ·rename_i k; rw [qw k]; exact aqd hs (.inl rfl) h0
         ·rename_i k7; rw [qk k7]
          split at h0
          ·rename_i k; rw [qw k]; exact aqd hs (.inr rfl) h0
          ·rename_i k8; rw [qk k8]; exact ats hs h0
def ao7 (zk : List Br) (r : Rf) : Option Xn := (zk.find? (fun b => decide (0 < aa8 b.zy r))).map Br.x
def St.lock (s : St) (r : Rf) : Option Xn := if s.okB = false then none else ao7 s.zk r
theorem att {l : List Br} {r : Rf} (h : aa8 (ace l) r = 0) : ∀ b ∈ l, aa8 b.zy r = 0 := by
 intro b hb
 have : ¬ 0 < aa8 (ace l) r := by omega
 have h2 : ¬ 0 < aa8 b.zy r := fun q => this (abq.2 (List.mem_flatMap.2 ⟨b, hb, abq.1 q⟩))
 omega
theorem awo {l : List Br} {i : Nat} {b : Br} {r : Rf} (h : aa8 (ace l) r = 0) (hb : 0 < aa8 b.zy r) : ao7 (abj l i b) r = some b.x := by
 have h0 := att h
 unfold ao7 abj
 have h1 : (l.take i).find? (fun b => decide (0 < aa8 b.zy r)) = none := by
  rw [List.find?_eq_none]; intro c hc; have := h0 c (List.mem_of_mem_take hc); simp [this]
 rw [List.find?_append, h1, List.find?_cons_of_pos (by simpa using hb)]; rfl
theorem alj {l : List Br} {i : Nat} {b : Br} (h : ∀ c ∈ l, c.x ≠ b.x) : (abj l i b).filter (fun c => decide (c.x ≠ b.x)) = l := by
 unfold abj
 rw [List.filter_append, List.filter_cons_of_neg (by simp)]
 have e : ∀ m : List Br, (∀ c ∈ m, c ∈ l) → m.filter (fun c => decide (c.x ≠ b.x)) = m := fun m hm => List.filter_eq_self.2 (fun c hc => qp (h c (hm c hc)))
 rw [e _ (fun c hc => List.mem_of_mem_take hc), e _ (fun c hc => List.mem_of_mem_drop hc), List.take_append_drop]
theorem aqe {l : List Br} {i : Nat} {b : Br} (h : ∀ c ∈ l, c.x ≠ b.x) : (abj l i b).find? (fun c => decide (c.x = b.x)) = some b := by
 unfold abj
 rw [List.find?_append, List.find?_eq_none.2 (fun c hc => by simpa using h c (List.mem_of_mem_take hc)), List.find?_cons_of_pos (by simp)]; rfl
structure Prepd (s : St) (e : En) : Prop where
 rt : s.Rt
 ok : e.okB = true
 B : ∀ b ∈ s.zk, b.x ≠ e.x
 P : ∀ p ∈ e.zu, ad0 s.qs p.q = true
 T : abw s [] e.zy = 0
 ap : s.ap e = ({ s with zk := abj s.zk (lbK aav Br.x s.zk e.x) ⟨e.x, e.zu, e.zy⟩ }, 0)
theorem bc0 {s : St} {e : En} (hk : e.kind = 4) (h0 : (s.ap e).2 = 0) : Prepd s e := by
 have h := h0
 unfold St.ap at h
 by_cases h1 : s.okB = false
 ·rw [qw h1] at h; exact jp h (by simp [no])
 rw [qk h1] at h
 by_cases h2 : e.okB = false
 ·rw [qw h2] at h; exact jp h (by simp [no])
 rw [qk h2] at h
 have ek : s.kind e = s.prep e := by unfold St.kind; rw [hk]; simp
 rw [ek] at h
 have hp := h
 unfold St.prep at h
 by_cases h3 : amu s.zk e.x = true ∨ ard s.hs e.x = true
 ·rw [qw h3] at h; exact jp h (by simp [no])
 rw [qk h3] at h
 by_cases h4 : e.zu.all (fun p => ad0 s.qs p.q) = false
 ·rw [qw h4] at h; exact jp h (by simp [no])
 rw [qk h4] at h
 by_cases h5 : abw s [] e.zy ≠ 0
 ·rw [qw h5] at h; exact jp h h5
 refine ⟨ao3.1 (by simpa using h1), by simpa using h2, ae5.1 (by have := mt Or.inl h3; simpa using this), ?_, Decidable.of_not_not h5, ?_⟩
 ·have : e.zu.all (fun p => ad0 s.qs p.q) = true := by simpa using h4
  rw [jt] at this; exact this
 ·unfold St.ap; rw [qk h1, qk h2, ek]; unfold St.prep; rw [qk h3, qk h4, qk h5]
theorem arf {s : St} {e : En} (h : Prepd s e) {r : Rf} (hr : r ∈ e.zy) : (s.ap e).1.lock r = some e.x := by
 have h0 := azl (s := s) (e := e) (by rw [h.ap])
 unfold St.lock
 rw [qk (by rw [ao3.2 h0]; simp), h.ap]
 exact awo (b := ⟨e.x, e.zu, e.zy⟩) ((ae7 h.T) r hr).2.1 (abq.2 hr)
def ab8 (qs : List Qu) (l : List Rf) : List Qu := qs.map (fun q => { q with zw := q.zw.map (fun m => if 0 < aa8 l ⟨q.name, m.id⟩ then m.mark else m) })
theorem atu (m : Ms) : m.mark.mark = m.mark := rfl
theorem ani (qs : List Qu) (l : List Rf) (r : Rf) : ao1 (ab8 qs l) r = ab8 qs (l ++ [r]) := by
 unfold ao1 amb ab8
 rw [List.map_map]
 refine List.map_congr_left (fun q hq => ?_)
 have e : ∀ i, aa8 (l ++ [r]) ⟨q.name, i⟩ = aa8 l ⟨q.name, i⟩ + if acz r ⟨q.name, i⟩ = true then 1 else 0 := fun i => by rw [aa6, acw, adb]; omega
 simp only [Function.comp]
 by_cases hn : q.name = r.q
 ·rw [qw hn]
  congr 1; rw [List.map_map]; refine List.map_congr_left (fun m hm => ?_); simp only [Function.comp]; by_cases hi : m.id = r.id
  ·have hs : acz r ⟨q.name, m.id⟩ = true := abt.2 (by obtain ⟨a, b⟩ := r; dsimp only at hn hi; rw [hn, hi])
   have h2 : 0 < aa8 (l ++ [r]) ⟨q.name, m.id⟩ := by rw [e, qw hs]; omega
   rw [qw h2]; by_cases h1 : 0 < aa8 l ⟨q.name, m.id⟩
   ·rw [qw h1, qw (show m.mark.id = r.id from hi), atu]
   ·rw [qk h1, qw hi]
  ·have hs : ¬ acz r ⟨q.name, m.id⟩ = true := fun q => hi (by rw [abt] at q; rw [q])
   have h2 : aa8 (l ++ [r]) ⟨q.name, m.id⟩ = aa8 l ⟨q.name, m.id⟩ := by rw [e, qk hs]; omega
   rw [h2]; by_cases h1 : 0 < aa8 l ⟨q.name, m.id⟩
   ·rw [qw h1, qk (show ¬ m.mark.id = r.id from hi)]
   ·rw [qk h1, qk hi]
 ·rw [qk hn]
  congr 1; refine List.map_congr_left (fun m hm => ?_); have hs : ¬ acz r ⟨q.name, m.id⟩ = true := fun h => hn (by rw [abt] at h; rw [h])
  rw [e, qk hs, Nat.add_zero]
theorem ao8 (qs : List Qu) : ab8 qs [] = qs := by
 unfold ab8
 conv => rhs; rw [← List.map_id qs]
 refine List.map_congr_left (fun q hq => ?_)
 simp [adb]
theorem anj : ∀ (l pre : List Rf) (qs : List Qu), l.foldl ao1 (ab8 qs pre) = ab8 qs (pre ++ l)
 | [], pre, qs => by simp
 | r :: l, pre, qs => by rw [List.foldl_cons, ani, anj l (pre ++ [r]) qs]; simp
def amf (x : Xn) : En := ⟨6, ⟨#[]⟩, 0, x, [], []⟩
def avq (x : Xn) (n : Int) : En := ⟨5, ⟨#[]⟩, n, x, [], []⟩
theorem azm {s : St} {e : En} (h : s.Rt) (he : e.okB = true) : s.ap e = s.kind e := by unfold St.ap; rw [qk (by rw [ao3.2 h]; simp), qk (by rw [he]; simp)]
theorem bc7 {e : En} (hk : e.kind = 4) (he : e.okB = true) : Xn.okB e.x = true ∧ e.name.size = 0 ∧ e.n = 0 ∧ e.zu.length ≤ 100 ∧ e.zy.length ≤ 100 ∧ (∀ p ∈ e.zu, Pt.okB false p = true) ∧ ∀ r ∈ e.zy, Rf.okB r = true := by
 unfold En.okB at he
 rw [hk] at he
 simp only [jj, jt, qm] at he
 obtain ⟨⟨⟨⟨⟨⟨⟨⟨-, h1⟩, h2⟩, h3⟩, -⟩, h5⟩, h6⟩, h7⟩, h8⟩ := he
 have g1 : (e.name.size == 0) = true := h1
 have g2 : (e.n == 0) = true := h2
 exact ⟨h3, by simpa using g1, by simpa using g2, h5, h6, h7, h8⟩
theorem awp {x : Xn} (h : Xn.okB x = true) : (amf x).okB = true := by
 have h1 : us 6 = 4 := rfl
 have h2 : uN 6 = false := rfl
 have h3 : uM 6 = false := rfl
 have h4 : uX 6 = true := rfl
 have h5 : uW 6 = false := rfl
 have h7 : (⟨#[]⟩ : ByteArray).size = 0 := rfl
 unfold En.okB amf
 simp only [h1, h2, h3, h4, h5, h7, h]
 simp
theorem azn {x : Xn} {n : Int} (h : Xn.okB x = true) (h0 : 1 ≤ n) (hn : n ≤ 1099511627776) : (avq x n).okB = true := by
 have h1 : us 5 = 6 := rfl
 have h2 : uN 5 = false := rfl
 have h3 : uM 5 = true := rfl
 have h4 : uX 5 = true := rfl
 have h5 : uW 5 = false := rfl
 have h7 : (⟨#[]⟩ : ByteArray).size = 0 := rfl
 have h8 : ah2 n = true := by unfold ah2; simp only [jj, qm]; exact ⟨h0, hn⟩
 unfold En.okB avq
 simp only [h1, h2, h3, h4, h5, h7, h, h8]
 simp
theorem azo {s : St} {e : En} {b : Br} (hf : s.zk.find? (fun c => decide (c.x = e.x)) = some b) : s.back e = ({ s.without e.x with qs := b.zy.foldl ao1 s.qs }, 0) := by unfold St.back; rw [hf]
theorem atv {s : St} {e : En} {b : Br} (hf : s.zk.find? (fun c => decide (c.x = e.x)) = some b) : s.commit e = if b.zu ≠ [] ∧ e.n ≠ s.next then no 9 else if 1099511627777 < s.next + b.zu.length then no 6 else ((s.without e.x).work (afg b.zu s.next) b.zy, 0) := by unfold St.commit; rw [hf]
theorem arh {s : St} {e : En} (hk : e.kind = 4) (h : Prepd s e) : (s.ap e).1.ap (amf e.x) = ({ s with qs := ab8 s.qs e.zy }, 0) := by
 have h0 := azl (s := s) (e := e) (by rw [h.ap])
 rw [azm h0 (awp (bc7 hk h.ok).1), h.ap]
 have ek : ∀ t : St, t.kind (amf e.x) = t.back (amf e.x) := fun t => by unfold St.kind amf; simp
 rw [ek]
 rw [azo (b := ⟨e.x, e.zu, e.zy⟩) (aqe (i := lbK aav Br.x s.zk e.x) (b := ⟨e.x, e.zu, e.zy⟩) h.B)]
 have hw : St.without { s with zk := abj s.zk (lbK aav Br.x s.zk e.x) ⟨e.x, e.zu, e.zy⟩ } (amf e.x).x = s := by
  unfold St.without; rw [show (abj s.zk (lbK aav Br.x s.zk e.x) ⟨e.x, e.zu, e.zy⟩).filter (fun c => decide (c.x ≠ (amf e.x).x)) = s.zk from alj (b := ⟨e.x, e.zu, e.zy⟩) h.B]
 rw [hw]
 dsimp only
 have hr := anj e.zy [] s.qs
 rw [ao8, List.nil_append] at hr
 rw [hr]
def ad2 (e : En) (n : Int) : En := ⟨3, e.name, e.n, Xn.zero, afg e.zu n, e.zy⟩
theorem atw {e : En} {n : Int} (hk : e.kind = 4) (he : e.okB = true) (h : e.zu = [] ∨ 1 ≤ n ∧ n + e.zu.length ≤ 1099511627777) : (ad2 e n).okB = true := by
 obtain ⟨-, a, b, c, d, f, g⟩ := bc7 hk he
 have h1 : us 3 = 8 := rfl
 have h2 : uN 3 = false := rfl
 have h3 : uM 3 = false := rfl
 have h4 : uX 3 = false := rfl
 have h5 : uW 3 = true := rfl
 have h8 : ((3 : Int) == 3) = true := rfl
 have h9 : (Xn.zero.1 == 0 && Xn.zero.2.1.size == 0 && Xn.zero.2.2.size == 0) = true := rfl
 have hP : (afg e.zu n).all (Pt.okB true) = true := by
  rw [jt]; rcases h with h | h
  ·rw [h]; intro p hp; cases hp
  ·exact ao0 h.1 (by omega) f
 have hT : e.zy.all Rf.okB = true := by rw [jt]; exact g
 have hpl : (afg e.zu n).length ≤ 100 := by rw [ag3]; exact c
 unfold En.okB ad2
 simp only [h1, h2, h3, h4, h5, h8, h9, hP, hT, hpl, a, b, d]
 simp
theorem aqf : ∀ {l : List Pt} {n : Int}, l ≠ [] → ∃ p ∈ afg l n, p.id = n + l.length - 1
 | [], _, h => jp rfl h
 | [p], n, _ => ⟨{ p with id := n }, by simp [afg], by show n = _; simp⟩
 | p :: q :: l, n, _ => by
  obtain ⟨y, hy, e⟩ := aqf (l := q :: l) (n := n + 1) (by simp); refine ⟨y, ?_, by rw [e]; simp only [jn]; push_cast; omega⟩; show y ∈ afg (p :: q :: l) n
  unfold afg; exact List.mem_cons_of_mem _ hy
theorem ari {s : St} {e : En} (h : Prepd s e) (n : Int) : St.commit { s with zk := abj s.zk (lbK aav Br.x s.zk e.x) ⟨e.x, e.zu, e.zy⟩ } (avq e.x n) = if e.zu ≠ [] ∧ n ≠ s.next then no 9 else if 1099511627777 < s.next + e.zu.length then no 6 else (s.work (afg e.zu s.next) e.zy, 0) := by
 have hw : St.without { s with zk := abj s.zk (lbK aav Br.x s.zk e.x) ⟨e.x, e.zu, e.zy⟩ } (avq e.x n).x = s := by
  unfold St.without; rw [show (abj s.zk (lbK aav Br.x s.zk e.x) ⟨e.x, e.zu, e.zy⟩).filter (fun c => decide (c.x ≠ (avq e.x n).x)) = s.zk from alj (b := ⟨e.x, e.zu, e.zy⟩) h.B]
 rw [atv (b := ⟨e.x, e.zu, e.zy⟩) (aqe (i := lbK aav Br.x s.zk e.x) (b := ⟨e.x, e.zu, e.zy⟩) h.B), hw]
 rfl
theorem ank {s : St} {e : En} (hk : e.kind = 4) (h : Prepd s e) : let a := (s.ap e).1.ap (avq e.x (min s.next 1099511627776)); let b := s.ap (ad2 e s.next);
 (a = (s.work (afg e.zu s.next) e.zy, 0) ∧ b = (s.work (afg e.zu s.next) e.zy, 0)) ∨ (¬ (a.2 = 0 ∧ b.2 = 0) ∧ 1099511627777 < s.next + e.zu.length ∧ 0 < e.zu.length) := by
 have h0 := azl (s := s) (e := e) (by rw [h.ap])
 have hn0 := h.rt.n0
 have hn1 := h.rt.n1
 dsimp only
 rw [azm h0 (azn (bc7 hk h.ok).1 (by omega) (by omega)), h.ap]
 have ek : ∀ t : St, ∀ n, t.kind (avq e.x n) = t.commit (avq e.x n) := fun t n => by unfold St.kind avq; simp
 rw [ek]
 rw [ari h]
 by_cases hl : e.zu = [] ∨ s.next + e.zu.length ≤ 1099511627777
 ·have hc : ¬ (e.zu ≠ [] ∧ min s.next 1099511627776 ≠ s.next) := by
   rintro ⟨q1, q2⟩; rcases hl with hl | hl
   ·exact q1 hl
   ·have : 0 < e.zu.length := List.length_pos_iff.2 q1
    omega
  have hc2 : ¬ 1099511627777 < s.next + e.zu.length := by
   rcases hl with hl | hl
   ·rw [hl]; simp; omega
   ·omega
  rw [qk hc, qk hc2]; left; have ho : (ad2 e s.next).okB = true := atw hk h.ok (by rcases hl with hl | hl; exact .inl hl; exact .inr ⟨hn0, hl⟩)
  have hap : s.ap (ad2 e s.next) = (s.work (afg e.zu s.next) e.zy, 0) := by
   rw [azm h.rt ho]; have ek3 : s.kind (ad2 e s.next) = s.doE (ad2 e s.next) := by unfold St.kind ad2; simp
   rw [ek3]; unfold St.doE ad2; dsimp only; rw [qk (by rw [ato h.P]; simp), qk (by rw [h.T]; simp)]
  rw [hap]; exact ⟨rfl, rfl⟩
 ·right
  have hl1 : e.zu ≠ [] := fun q => hl (.inl q)
  have hl2 : 1099511627777 < s.next + e.zu.length := by have := mt Or.inr hl; omega
  refine ⟨fun ⟨_, q⟩ => ?_, hl2, List.length_pos_iff.2 hl1⟩
  have hno : (ad2 e s.next).okB = false := by
   cases hh : (ad2 e s.next).okB with
   | false => rfl
   | true =>
    obtain ⟨p, hp, hi⟩ := aqf (n := s.next) hl1
    have hpo : Pt.okB true p = true := by
     unfold En.okB ad2 at hh; simp only [jj, jt] at hh; exact hh.1.2 p hp
    have := (bbq hpo).2; omega
  unfold St.ap at q; rw [qk (by rw [ao3.2 h.rt]; simp), qw hno] at q; exact jp q (by simp [no])
abbrev hdQ : ByteArray := ⟨#[113]⟩
abbrev hdX : Xn := (0, ⟨#[120]⟩, ⟨#[]⟩)
abbrev hdP (r : Bool) : Pr := ⟨⟨#[]⟩, false, r, ⟨#[]⟩, V.zero⟩
abbrev hdS0 : St := ⟨1, [], [], []⟩
abbrev hdE0 : En := ⟨1, hdQ, 9, Xn.zero, [], []⟩
abbrev hdS1 : St := ⟨1, [⟨hdQ, 9, []⟩], [], []⟩
abbrev hdE1 : En := ⟨3, ⟨#[]⟩, 0, Xn.zero, [⟨hdQ, 1, hdP false, ⟨#[97]⟩⟩], []⟩
abbrev hdS2 (r : Bool) : St := ⟨2, [⟨hdQ, 9, [⟨1, hdP r, ⟨#[97]⟩⟩]⟩], [], []⟩
abbrev hdE2 : En := ⟨4, ⟨#[]⟩, 0, hdX, [], [⟨hdQ, 1⟩]⟩
abbrev hdS3 : St := ⟨2, [⟨hdQ, 9, [⟨1, hdP false, ⟨#[97]⟩⟩]⟩], [⟨hdX, [], [⟨hdQ, 1⟩]⟩], []⟩
abbrev hdE3 : En := ⟨2, hdQ, 0, Xn.zero, [], []⟩
abbrev hdE4 : En := ⟨6, ⟨#[]⟩, 0, hdX, [], []⟩
theorem hd0 : hdS0.ap hdE0 = (hdS1, 0) := by kernel_rfl
theorem hd3 : (hdS3.ap hdE3).2 = 9 := by kernel_rfl
theorem hd1 : hdS1.ap hdE1 = (hdS2 false, 0) := by kernel_rfl
theorem hd2 : (hdS2 false).ap hdE2 = (hdS3, 0) := by kernel_rfl
theorem hd4 : hdS3.ap hdE4 = (hdS2 true, 0) := by kernel_rfl
structure PtT where
 q : ByteArray
 id : Int
 pr : PT
 body : ByteArray
def PtT.p (t : PtT) : Pt := ⟨t.q, t.id, t.pr.p, t.body⟩
def aat (t : PtT) : List Value := [.string t.q, .int .u64 t.id, .string t.pr.key, .bool t.pr.dur, .bool t.pr.red, .string t.pr.mid, .int .u8 t.pr.app.k, .int .u64 t.pr.app.n, .string t.pr.app.s, t.pr.app.kv, t.pr.app.lv, .string t.body]
def PtT.arg (t : PtT) : Value := .agg #[.string t.q, .int .u64 t.id, .string t.pr.key, .bool t.pr.dur, .bool t.pr.red, .string t.pr.mid, .int .u8 t.pr.app.k, .int .u64 t.pr.app.n, .string t.pr.app.s, t.pr.app.kv, t.pr.app.lv, .string t.body]
theorem PtT.arg_mk (q key mid body : ByteArray) (id : Int) (dur red : Bool) (k n : Int) (s : ByteArray) (kv lv : Value) (ks : List ByteArray) (l : List VT) : (PtT.mk q id (PT.mk key dur red mid (VT.mk k n s kv lv ks l)) body).arg = .agg #[.string q, .int .u64 id, .string key, .bool dur, .bool red, .string mid, .int .u8 k, .int .u64 n, .string s, kv, lv, .string body] := rfl
def abc (r : Rf) : List Value := [.string r.q, .int .u64 r.id]
theorem aae (t : PtT) : (aat t).length = 12 := rfl
theorem aa9 (t : Rf) : (abc t).length = 2 := rfl
theorem ae8 (t : Rf) : ∀ u ∈ abc t, u.oneCell' = true := by simp [abc, Value.oneCell']
structure EnT where
 kind : Int
 name : ByteArray
 n : Int
 x : Xn
 pv : Value
 tv : Value
 zu : List PtT
 zy : List Rf
def EnT.e (t : EnT) : En := ⟨t.kind, t.name, t.n, t.x, t.zu.map PtT.p, t.zy⟩
def EnT.arg (t : EnT) : Value := .agg #[.int .u8 t.kind, .string t.name, .int .u64 t.n, .int .u32 t.x.1, .string t.x.2.1, .string t.x.2.2, t.pv, t.tv]
theorem EnT.arg_mk (kind n : Int) (name : ByteArray) (xf : Int) (xg xb : ByteArray) (pv tv : Value) (zu : List PtT) (zy : List Rf) : (EnT.mk kind name n (xf, xg, xb) pv tv zu zy).arg = .agg #[.int .u8 kind, .string name, .int .u64 n, .int .u32 xf, .string xg, .string xb, pv, tv] := rfl
structure EnRd (P : Nat → Prop) (w : World) (x : EnT) : Prop where
 p : Slc aat 12 w x.pv x.zu
 pP : ∀ k, x.pv.ownBlock = some k → x.zu ≠ [] → P k
 r : ∀ y ∈ x.zu, Rd P w y.pr.app
 s : Slc abc 2 w x.tv x.zy
 sP : ∀ k, x.tv.ownBlock = some k → x.zy ≠ [] → P k
 wf : x.e.Wf
theorem EnRd.pure {P : Nat → Prop} {w w' : World} {t : EnT} (h : EnRd P w t) (hB : Below w.heap.size w w') : EnRd P w' t := ⟨h.p.pure hB, h.pP, fun x hx => (h.r x hx).pure hB, h.s.pure hB, h.sP, h.wf⟩
theorem EnRd.weaken {P Q : Nat → Prop} {w : World} {t : EnT} (h : EnRd P w t) (hq : ∀ k, P k → Q k) : EnRd Q w t := ⟨h.p, fun k e n => hq k (h.pP k e n), fun x hx => (h.r x hx).weaken (fun k _ hk => hq k hk), h.s, fun k e n => hq k (h.sP k e n), h.wf⟩
theorem EnRd.open {P : Nat → Prop} {w : World} {t : EnT} (h : EnRd P w t) : ∃ (kind : Int) (name : ByteArray) (n xf : Int) (xg xb : ByteArray) (pa : Option Addr) (pc : Nat) (ta : Option Addr) (tc : Nat) (zu : List PtT) (zy : List Rf),
 t = (EnT.mk kind name n (xf, xg, xb) (.slice pa zu.length pc) (.slice ta zy.length tc) zu zy) ∧ zu.length ≤ maxLen ∧ zy.length ≤ maxLen := by
 obtain ⟨kind, name, n, ⟨xf, xg, xb⟩, pv, tv, zu, zy⟩ := t
 obtain ⟨pa, pc, rfl, h1⟩ : ∃ a c, pv = .slice a zu.length c ∧ zu.length ≤ maxLen := h.p.len
 obtain ⟨ta, tc, rfl, h2⟩ : ∃ a c, tv = .slice a zy.length c ∧ zy.length ≤ maxLen := h.s.len
 exact ⟨kind, name, n, xf, xg, xb, pa, pc, ta, tc, zu, zy, rfl, h1, h2⟩
theorem ad5 {P : Nat → Prop} {w : World} {g off n cap : Nat} {L : List PtT} (h : Slc aat 12 w (.slice (some ⟨g, off, none⟩) n cap) L) {i : Nat} (hi : i < L.length) (hr : Rd P w L[i].pr.app) :
 ∃ (q : ByteArray) (id : Int) (key : ByteArray) (dur red : Bool) (mid : ByteArray) (uk un : Int) (us : ByteArray) (uka : Option Addr) (ukc : Nat) (ula : Option Addr) (ulc : Nat) (uks : List ByteArray) (ul : List VT) (body : ByteArray),
 L[i] = (PtT.mk q id (PT.mk key dur red mid (VT.mk uk un us (.slice uka uks.length ukc) (.slice ula ul.length ulc) uks ul)) body) ∧ w.cell? ⟨g, off + i * 12, none⟩ = some (.string q) ∧ w.cell? ⟨g, off + i * 12 + 1, none⟩ = some (.int .u64 id) ∧ w.cell? ⟨g, off + i * 12 + 2, none⟩ = some (.string key) ∧ w.cell? ⟨g, off + i * 12 + 3, none⟩ = some (.bool dur) ∧ w.cell? ⟨g, off + i * 12 + 4, none⟩ = some (.bool red) ∧ w.cell? ⟨g, off + i * 12 + 5, none⟩ = some (.string mid) ∧ w.cell? ⟨g, off + i * 12 + 6, none⟩ = some (.int .u8 uk) ∧ w.cell? ⟨g, off + i * 12 + 7, none⟩ = some (.int .u64 un) ∧ w.cell? ⟨g, off + i * 12 + 8, none⟩ = some (.string us) ∧ w.cell? ⟨g, off + i * 12 + 9, none⟩ = some (.slice uka uks.length ukc) ∧ w.cell? ⟨g, off + i * 12 + 10, none⟩ = some (.slice ula ul.length ulc) ∧ w.cell? ⟨g, off + i * 12 + 11, none⟩ = some (.string body) := by
 have hc := fun j u (hu : (aat L[i])[j]? = some u) => h.get i hi j u hu
 rcases hx : L[i] with ⟨q, id, ⟨key, dur, red, mid, app⟩, body⟩
 rw [hx] at hc hr
 have hr : Rd P w app := hr
 obtain ⟨uk, un, us, uka, ukc, ula, ulc, uks, ul, rfl, -⟩ := hr.open
 exact ⟨q, id, key, dur, red, mid, uk, un, us, uka, ukc, ula, ulc, uks, ul, body, rfl, hc 0 _ rfl, hc 1 _ rfl, hc 2 _ rfl, hc 3 _ rfl, hc 4 _ rfl, hc 5 _ rfl, hc 6 _ rfl, hc 7 _ rfl, hc 8 _ rfl, hc 9 _ rfl, hc 10 _ rfl, hc 11 _ rfl⟩
theorem ado {w : World} {g off n cap : Nat} {L : List Rf} (h : Slc abc 2 w (.slice (some ⟨g, off, none⟩) n cap) L) {i : Nat} (hi : i < L.length) :
 ∃ (q : ByteArray) (id : Int), L[i] = ⟨q, id⟩ ∧ w.cell? ⟨g, off + i * 2, none⟩ = some (.string q) ∧ w.cell? ⟨g, off + i * 2 + 1, none⟩ = some (.int .u64 id) := by
 have hc := fun j u (hu : (abc L[i])[j]? = some u) => h.get i hi j u hu
 rcases hx : L[i] with ⟨q, id⟩
 rw [hx] at hc
 exact ⟨q, id, rfl, hc 0 _ rfl, hc 1 _ rfl⟩
theorem bc8 (k : Int) : us k < 16 := by
 unfold us
 split; omega
 split; omega
 split; omega
 split; omega
 split; omega
 split; omega
 omega
theorem bbs (u : Nat) (hu : u < 16) : (bits .and .i64 (u : Int) 1 != 0) = (u % 2 == 1) ∧ (bits .and .i64 (u : Int) 2 != 0) = (u / 2 % 2 == 1) ∧ (bits .and .i64 (u : Int) 4 != 0) = (u / 4 % 2 == 1) ∧ (bits .and .i64 (u : Int) 8 != 0) = (u / 8 % 2 == 1) := by
 match u, hu with
 | 0, _ => exact ⟨rfl, rfl, rfl, rfl⟩
 | 1, _ => exact ⟨rfl, rfl, rfl, rfl⟩
 | 2, _ => exact ⟨rfl, rfl, rfl, rfl⟩
 | 3, _ => exact ⟨rfl, rfl, rfl, rfl⟩
 | 4, _ => exact ⟨rfl, rfl, rfl, rfl⟩
 | 5, _ => exact ⟨rfl, rfl, rfl, rfl⟩
 | 6, _ => exact ⟨rfl, rfl, rfl, rfl⟩
 | 7, _ => exact ⟨rfl, rfl, rfl, rfl⟩
 | 8, _ => exact ⟨rfl, rfl, rfl, rfl⟩
 | 9, _ => exact ⟨rfl, rfl, rfl, rfl⟩
 | 10, _ => exact ⟨rfl, rfl, rfl, rfl⟩
 | 11, _ => exact ⟨rfl, rfl, rfl, rfl⟩
 | 12, _ => exact ⟨rfl, rfl, rfl, rfl⟩
 | 13, _ => exact ⟨rfl, rfl, rfl, rfl⟩
 | 14, _ => exact ⟨rfl, rfl, rfl, rfl⟩
 | 15, _ => exact ⟨rfl, rfl, rfl, rfl⟩
 | u + 16, h => omega
theorem aii {x : Int} {b : Bool} (h : (x != 0) = b) : (x == 0) = !b := by rw [← h]; unfold bne; rw [Bool.not_not]
structure EnOw (B : Nat) (w : World) (t : EnT) : Prop where
 p : Own B 64 12 aat w t.pv t.zu
 r : ∀ x ∈ t.zu, Rd (fun i => B ≤ i ∧ t.pv.ownBlock ≠ some i) w x.pr.app
 s : Own B 68 2 abc w t.tv t.zy
 d : ∀ b, t.pv.ownBlock = some b → t.tv.ownBlock ≠ some b
 wf : t.e.Wf
theorem EnOw.rd {B : Nat} {w : World} {t : EnT} (h : EnOw B w t) : EnRd (fun i => B ≤ i) w t :=
 ⟨h.p.slc aae, fun k e _ => h.p.ge e, fun x hx => (h.r x hx).weaken (fun i _ hi => hi.1), h.s.slc aa9, fun k e _ => h.s.ge e, h.wf⟩
theorem EnOw.pure {B : Nat} {w w' : World} {t : EnT} (h : EnOw B w t) (hB : Below w.heap.size w w') : EnOw B w' t :=
 ⟨h.p.pure hB, fun x hx => (h.r x hx).pure hB, h.s.pure hB, h.d, h.wf⟩
theorem EnOw.upd {S : Nat → Prop} {B : Nat} {w w' : World} {t : EnT} (h : EnOw B w t) (hu : Upd S w w') (hS : ∀ k, B ≤ k → ¬ S k) : EnOw B w' t :=
 ⟨h.p.upd hu (fun k e => hS k (h.p.ge e)), fun x hx => (h.r x hx).upd hu (fun b hb => hS b hb.1), h.s.upd hu (fun k e => hS k (h.s.ge e)), h.d, h.wf⟩
theorem EnOw.base {B C : Nat} {w : World} {t : EnT} (h : EnOw B w t) (hC : C ≤ B) : EnOw C w t :=
 ⟨h.p.rebase (fun k e => jk hC (h.p.ge e)), fun x hx => (h.r x hx).weaken (fun i _ hi => ⟨jk hC hi.1, hi.2⟩), h.s.rebase (fun k e => jk hC (h.s.ge e)), h.d, h.wf⟩
theorem EnRd.upd {S : Nat → Prop} {P : Nat → Prop} {w w' : World} {t : EnT} (h : EnRd P w t) (hu : Upd S w w') (hS : ∀ k, P k → ¬ S k) : EnRd P w' t :=
 ⟨h.p.updL hu (fun hn b e => hS b (h.pP b e hn)), h.pP, fun x hx => (h.r x hx).upd hu hS, h.s.updL hu (fun hn b e => hS b (h.sP b e hn)), h.sP, h.wf⟩
def one (v : Value) : Value := match v with | .slice a n c => .slice a n c | _ => .slice none 0 0
theorem ao9 (v : Value) : (one v).oneCell' = true := by unfold one; split <;> rfl
structure MsT where
 id : Int
 pr : PT
 body : ByteArray
def MsT.m (t : MsT) : Ms := ⟨t.id, t.pr.p, t.body⟩
def abl (t : MsT) : List Value := [.int .u64 t.id, .string t.pr.key, .bool t.pr.dur, .bool t.pr.red, .string t.pr.mid, .int .u8 t.pr.app.k, .int .u64 t.pr.app.n, .string t.pr.app.s, one t.pr.app.kv, one t.pr.app.lv, .string t.body]
theorem aac (t : MsT) : (abl t).length = 11 := rfl
theorem ag5 (t : MsT) : ∀ u ∈ abl t, u.oneCell' = true := by
 intro u hu
 simp only [abl, List.mem_cons, List.not_mem_nil, or_false] at hu
 rcases hu with rfl | rfl | rfl | rfl | rfl | rfl | rfl | rfl | rfl | rfl | rfl <;> first | exact ao9 _ | rfl
structure QuT where
 name : ByteArray
 limit : Int
 mv : Value
 zw : List MsT
def QuT.q (t : QuT) : Qu := ⟨t.name, t.limit, t.zw.map MsT.m⟩
def aar (t : QuT) : List Value := [.string t.name, .int .u64 t.limit, one t.mv]
theorem aaf (t : QuT) : (aar t).length = 3 := rfl
theorem aea (t : QuT) : ∀ u ∈ aar t, u.oneCell' = true := by
 intro u hu
 simp only [aar, List.mem_cons, List.not_mem_nil, or_false] at hu
 rcases hu with rfl | rfl | rfl <;> first | exact ao9 _ | rfl
structure BrT where
 x : Xn
 pv : Value
 tv : Value
 zu : List PtT
 zy : List Rf
def BrT.b (t : BrT) : Br := ⟨t.x, t.zu.map PtT.p, t.zy⟩
def BrT.en (t : BrT) : EnT := ⟨4, ⟨#[]⟩, 0, t.x, t.pv, t.tv, t.zu, t.zy⟩
def aa7 (t : BrT) : List Value := [.int .u32 t.x.1, .string t.x.2.1, .string t.x.2.2, one t.pv, one t.tv]
theorem aag (t : BrT) : (aa7 t).length = 5 := rfl
theorem aeb (t : BrT) : ∀ u ∈ aa7 t, u.oneCell' = true := by
 intro u hu
 simp only [aa7, List.mem_cons, List.not_mem_nil, or_false] at hu
 rcases hu with rfl | rfl | rfl | rfl | rfl <;> first | exact ao9 _ | rfl
def adp (t : He) : List Value := [.int .u32 t.x.1, .string t.x.2.1, .string t.x.2.2, .bool t.c]
theorem adi (t : He) : (adp t).length = 4 := rfl
theorem anl (t : He) : ∀ u ∈ adp t, u.oneCell' = true := by simp [adp, Value.oneCell']
structure StT where
 next : Int
 qv : Value
 bv : Value
 hv : Value
 qs : List QuT
 zk : List BrT
 hs : List He
def StT.s (t : StT) : St := ⟨t.next, t.qs.map QuT.q, t.zk.map BrT.b, t.hs⟩
def StT.arg (t : StT) : Value := .agg #[.int .u64 t.next, t.qv, t.bv, t.hv]
theorem StT.arg_mk (n : Int) (qv bv hv : Value) (qs : List QuT) (zk : List BrT) (hs : List He) : (StT.mk n qv bv hv qs zk hs).arg = .agg #[.int .u64 n, qv, bv, hv] := rfl
structure MsRd (P : Nat → Prop) (w : World) (v : Value) (l : List MsT) : Prop where
 s : Slc abl 11 w v l
 sP : ∀ k, v.ownBlock = some k → l ≠ [] → P k
 r : ∀ m ∈ l, Rd P w m.pr.app
 wf : ∀ m ∈ l, 0 ≤ m.id ∧ m.id < 18446744073709551616
theorem MsRd.pure {P : Nat → Prop} {w w' : World} {v : Value} {l : List MsT} (h : MsRd P w v l) (hB : Below w.heap.size w w') : MsRd P w' v l := ⟨h.s.pure hB, h.sP, fun m hm => (h.r m hm).pure hB, h.wf⟩
theorem MsRd.upd {S P : Nat → Prop} {w w' : World} {v : Value} {l : List MsT} (h : MsRd P w v l) (hu : Upd S w w') (hS : ∀ k, P k → ¬ S k) : MsRd P w' v l := ⟨h.s.updL hu (fun hn b e => hS b (h.sP b e hn)), h.sP, fun m hm => (h.r m hm).upd hu hS, h.wf⟩
theorem MsRd.weaken {P Q : Nat → Prop} {w : World} {v : Value} {l : List MsT} (h : MsRd P w v l) (hq : ∀ k, P k → Q k) : MsRd Q w v l := ⟨h.s, fun k e n => hq k (h.sP k e n), fun m hm => (h.r m hm).weaken (fun k _ hk => hq k hk), h.wf⟩
structure StRd (P : Nat → Prop) (w : World) (t : StT) : Prop where
 q : Slc aar 3 w t.qv t.qs
 qP : ∀ k, t.qv.ownBlock = some k → t.qs ≠ [] → P k
 m : ∀ q ∈ t.qs, MsRd P w q.mv q.zw
 b : Slc aa7 5 w t.bv t.zk
 bP : ∀ k, t.bv.ownBlock = some k → t.zk ≠ [] → P k
 e : ∀ b ∈ t.zk, EnRd P w b.en
 h : Slc adp 4 w t.hv t.hs
 hP : ∀ k, t.hv.ownBlock = some k → t.hs ≠ [] → P k
 n : 0 ≤ t.next ∧ t.next < 18446744073709551616
 ql : ∀ q ∈ t.qs, 0 ≤ q.limit ∧ q.limit < 18446744073709551616
 hx : ∀ h ∈ t.hs, 0 ≤ h.x.1 ∧ h.x.1 < 4294967296
theorem StRd.pure {P : Nat → Prop} {w w' : World} {t : StT} (h : StRd P w t) (hB : Below w.heap.size w w') : StRd P w' t :=
 ⟨h.q.pure hB, h.qP, fun q hq => (h.m q hq).pure hB, h.b.pure hB, h.bP, fun b hb => (h.e b hb).pure hB, h.h.pure hB, h.hP, h.n, h.ql, h.hx⟩
theorem StRd.upd {S P : Nat → Prop} {w w' : World} {t : StT} (h : StRd P w t) (hu : Upd S w w') (hS : ∀ k, P k → ¬ S k) : StRd P w' t :=
 ⟨h.q.updL hu (fun hn b e => hS b (h.qP b e hn)), h.qP, fun q hq => (h.m q hq).upd hu hS, h.b.updL hu (fun hn b e => hS b (h.bP b e hn)), h.bP, fun b hb => (h.e b hb).upd hu hS, h.h.updL hu (fun hn b e => hS b (h.hP b e hn)), h.hP, h.n, h.ql, h.hx⟩
theorem StRd.weaken {P Q : Nat → Prop} {w : World} {t : StT} (h : StRd P w t) (hq : ∀ k, P k → Q k) : StRd Q w t :=
 ⟨h.q, fun k e n => hq k (h.qP k e n), fun q hq' => (h.m q hq').weaken hq, h.b, fun k e n => hq k (h.bP k e n), fun b hb => (h.e b hb).weaken hq, h.h, fun k e n => hq k (h.hP k e n), h.n, h.ql, h.hx⟩
theorem StRd.open {P : Nat → Prop} {w : World} {t : StT} (h : StRd P w t) : ∃ (n : Int) (qa : Option Addr) (qc : Nat) (ba : Option Addr) (bc : Nat) (ha : Option Addr) (hc : Nat) (qs : List QuT) (zk : List BrT) (hs : List He),
 t = StT.mk n (.slice qa qs.length qc) (.slice ba zk.length bc) (.slice ha hs.length hc) qs zk hs ∧ qs.length ≤ maxLen ∧ zk.length ≤ maxLen ∧ hs.length ≤ maxLen := by
 obtain ⟨n, qv, bv, hv, qs, zk, hs⟩ := t
 obtain ⟨qa, qc, rfl, h1⟩ : ∃ a c, qv = .slice a qs.length c ∧ qs.length ≤ maxLen := h.q.len
 obtain ⟨ba, bc, rfl, h2⟩ : ∃ a c, bv = .slice a zk.length c ∧ zk.length ≤ maxLen := h.b.len
 obtain ⟨ha, hc, rfl, h3⟩ : ∃ a c, hv = .slice a hs.length c ∧ hs.length ≤ maxLen := h.h.len
 exact ⟨n, qa, qc, ba, bc, ha, hc, qs, zk, hs, rfl, h1, h2, h3⟩
theorem aga {P : Nat → Prop} {w : World} {g off n cap : Nat} {L : List MsT} (h : Slc abl 11 w (.slice (some ⟨g, off, none⟩) n cap) L) {i : Nat} (hi : i < L.length) (hr : Rd P w L[i].pr.app) :
 ∃ (id : Int) (key : ByteArray) (dur red : Bool) (mid : ByteArray) (uk un : Int) (us : ByteArray) (uka : Option Addr) (ukc : Nat) (ula : Option Addr) (ulc : Nat) (uks : List ByteArray) (ul : List VT) (body : ByteArray),
 L[i] = (MsT.mk id (PT.mk key dur red mid (VT.mk uk un us (.slice uka uks.length ukc) (.slice ula ul.length ulc) uks ul)) body) ∧ w.cell? ⟨g, off + i * 11, none⟩ = some (.int .u64 id) ∧ w.cell? ⟨g, off + i * 11 + 1, none⟩ = some (.string key) ∧ w.cell? ⟨g, off + i * 11 + 2, none⟩ = some (.bool dur) ∧ w.cell? ⟨g, off + i * 11 + 3, none⟩ = some (.bool red) ∧ w.cell? ⟨g, off + i * 11 + 4, none⟩ = some (.string mid) ∧ w.cell? ⟨g, off + i * 11 + 5, none⟩ = some (.int .u8 uk) ∧ w.cell? ⟨g, off + i * 11 + 6, none⟩ = some (.int .u64 un) ∧ w.cell? ⟨g, off + i * 11 + 7, none⟩ = some (.string us) ∧ w.cell? ⟨g, off + i * 11 + 8, none⟩ = some (.slice uka uks.length ukc) ∧ w.cell? ⟨g, off + i * 11 + 9, none⟩ = some (.slice ula ul.length ulc) ∧ w.cell? ⟨g, off + i * 11 + 10, none⟩ = some (.string body) := by
 have hc := fun j u (hu : (abl L[i])[j]? = some u) => h.get i hi j u hu
 rcases hx : L[i] with ⟨id, ⟨key, dur, red, mid, app⟩, body⟩
 rw [hx] at hc hr
 have hr : Rd P w app := hr
 obtain ⟨uk, un, us, uka, ukc, ula, ulc, uks, ul, rfl, -⟩ := hr.open
 exact ⟨id, key, dur, red, mid, uk, un, us, uka, ukc, ula, ulc, uks, ul, body, rfl, hc 0 _ rfl, hc 1 _ rfl, hc 2 _ rfl, hc 3 _ rfl, hc 4 _ rfl, hc 5 _ rfl, hc 6 _ rfl, hc 7 _ rfl, hc 8 _ rfl, hc 9 _ rfl, hc 10 _ rfl⟩
theorem afh {w : World} {g off n cap : Nat} {L : List MsT} (h : Slc abl 11 w (.slice (some ⟨g, off, none⟩) n cap) L) {i : Nat} (hi : i < L.length) {id : Int} {key mid us body : ByteArray} {dur red : Bool} {uk un : Int} {uka ula : Option Addr} {un1 un2 ukc ulc : Nat} {uks : List ByteArray} {ul : List VT} (hx : L[i] = MsT.mk id (PT.mk key dur red mid (VT.mk uk un us (.slice uka un1 ukc) (.slice ula un2 ulc) uks ul)) body) :
 w.cell? ⟨g, off + i * 11, none⟩ = some (.int .u64 id) ∧ w.cell? ⟨g, off + i * 11 + 1, none⟩ = some (.string key) ∧ w.cell? ⟨g, off + i * 11 + 2, none⟩ = some (.bool dur) ∧ w.cell? ⟨g, off + i * 11 + 3, none⟩ = some (.bool red) ∧ w.cell? ⟨g, off + i * 11 + 4, none⟩ = some (.string mid) ∧ w.cell? ⟨g, off + i * 11 + 5, none⟩ = some (.int .u8 uk) ∧ w.cell? ⟨g, off + i * 11 + 6, none⟩ = some (.int .u64 un) ∧ w.cell? ⟨g, off + i * 11 + 7, none⟩ = some (.string us) ∧ w.cell? ⟨g, off + i * 11 + 8, none⟩ = some (.slice uka un1 ukc) ∧ w.cell? ⟨g, off + i * 11 + 9, none⟩ = some (.slice ula un2 ulc) ∧ w.cell? ⟨g, off + i * 11 + 10, none⟩ = some (.string body) := by
 have hc := fun j u (hu : (abl L[i])[j]? = some u) => h.get i hi j u hu
 rw [hx] at hc
 exact ⟨hc 0 _ rfl, hc 1 _ rfl, hc 2 _ rfl, hc 3 _ rfl, hc 4 _ rfl, hc 5 _ rfl, hc 6 _ rfl, hc 7 _ rfl, hc 8 _ rfl, hc 9 _ rfl, hc 10 _ rfl⟩
theorem aby {w : World} {g off n cap : Nat} {L : List QuT} (h : Slc aar 3 w (.slice (some ⟨g, off, none⟩) n cap) L) {i : Nat} (hi : i < L.length) {name : ByteArray} {lim : Int} {ma : Option Addr} {mn mc : Nat} {zw : List MsT} (hx : L[i] = QuT.mk name lim (.slice ma mn mc) zw) : w.cell? ⟨g, off + i * 3, none⟩ = some (.string name) ∧ w.cell? ⟨g, off + i * 3 + 1, none⟩ = some (.int .u64 lim) ∧ w.cell? ⟨g, off + i * 3 + 2, none⟩ = some (.slice ma mn mc) := by
 have hc := fun j u (hu : (aar L[i])[j]? = some u) => h.get i hi j u hu
 rw [hx] at hc
 exact ⟨hc 0 _ rfl, hc 1 _ rfl, hc 2 _ rfl⟩
theorem ach {w : World} {g off n cap : Nat} {L : List BrT} (h : Slc aa7 5 w (.slice (some ⟨g, off, none⟩) n cap) L) {i : Nat} (hi : i < L.length) {xf : Int} {xg xb : ByteArray} {pa ta : Option Addr} {pn pc tn tc : Nat} {zu : List PtT} {zy : List Rf} (hx : L[i] = BrT.mk (xf, xg, xb) (.slice pa pn pc) (.slice ta tn tc) zu zy) : w.cell? ⟨g, off + i * 5, none⟩ = some (.int .u32 xf) ∧ w.cell? ⟨g, off + i * 5 + 1, none⟩ = some (.string xg) ∧ w.cell? ⟨g, off + i * 5 + 2, none⟩ = some (.string xb) ∧ w.cell? ⟨g, off + i * 5 + 3, none⟩ = some (.slice pa pn pc) ∧ w.cell? ⟨g, off + i * 5 + 4, none⟩ = some (.slice ta tn tc) := by
 have hc := fun j u (hu : (aa7 L[i])[j]? = some u) => h.get i hi j u hu
 rw [hx] at hc
 exact ⟨hc 0 _ rfl, hc 1 _ rfl, hc 2 _ rfl, hc 3 _ rfl, hc 4 _ rfl⟩
theorem aco {w : World} {g off n cap : Nat} {L : List He} (h : Slc adp 4 w (.slice (some ⟨g, off, none⟩) n cap) L) {i : Nat} (hi : i < L.length) {xf : Int} {xg xb : ByteArray} {c : Bool} (hx : L[i] = ⟨(xf, xg, xb), c⟩) : w.cell? ⟨g, off + i * 4, none⟩ = some (.int .u32 xf) ∧ w.cell? ⟨g, off + i * 4 + 1, none⟩ = some (.string xg) ∧ w.cell? ⟨g, off + i * 4 + 2, none⟩ = some (.string xb) ∧ w.cell? ⟨g, off + i * 4 + 3, none⟩ = some (.bool c) := by
 have hc := fun j u (hu : (adp L[i])[j]? = some u) => h.get i hi j u hu
 rw [hx] at hc
 exact ⟨hc 0 _ rfl, hc 1 _ rfl, hc 2 _ rfl, hc 3 _ rfl⟩
theorem aep {P : Nat → Prop} {w : World} {g off n cap : Nat} {L : List QuT} (h : Slc aar 3 w (.slice (some ⟨g, off, none⟩) n cap) L) {i : Nat} (hi : i < L.length) (hr : MsRd P w L[i].mv L[i].zw) :
 ∃ (name : ByteArray) (lim : Int) (ma : Option Addr) (mc : Nat) (zw : List MsT), L[i] = QuT.mk name lim (.slice ma zw.length mc) zw ∧ zw.length ≤ maxLen ∧ w.cell? ⟨g, off + i * 3, none⟩ = some (.string name) ∧ w.cell? ⟨g, off + i * 3 + 1, none⟩ = some (.int .u64 lim) ∧ w.cell? ⟨g, off + i * 3 + 2, none⟩ = some (.slice ma zw.length mc) := by
 have hc := fun j u (hu : (aar L[i])[j]? = some u) => h.get i hi j u hu
 rcases hx : L[i] with ⟨name, lim, mv, zw⟩
 rw [hx] at hc hr
 obtain ⟨ma, mc, rfl, hm⟩ : ∃ a c, mv = .slice a zw.length c ∧ zw.length ≤ maxLen := hr.s.len
 exact ⟨name, lim, ma, mc, zw, rfl, hm, hc 0 _ rfl, hc 1 _ rfl, hc 2 _ rfl⟩
theorem adq {P : Nat → Prop} {w : World} {g off n cap : Nat} {L : List BrT} (h : Slc aa7 5 w (.slice (some ⟨g, off, none⟩) n cap) L) {i : Nat} (hi : i < L.length) (hr : EnRd P w L[i].en) :
 ∃ (xf : Int) (xg xb : ByteArray) (pa : Option Addr) (pc : Nat) (ta : Option Addr) (tc : Nat) (zu : List PtT) (zy : List Rf), L[i] = BrT.mk (xf, xg, xb) (.slice pa zu.length pc) (.slice ta zy.length tc) zu zy ∧ zu.length ≤ maxLen ∧ zy.length ≤ maxLen ∧ w.cell? ⟨g, off + i * 5, none⟩ = some (.int .u32 xf) ∧ w.cell? ⟨g, off + i * 5 + 1, none⟩ = some (.string xg) ∧ w.cell? ⟨g, off + i * 5 + 2, none⟩ = some (.string xb) ∧ w.cell? ⟨g, off + i * 5 + 3, none⟩ = some (.slice pa zu.length pc) ∧ w.cell? ⟨g, off + i * 5 + 4, none⟩ = some (.slice ta zy.length tc) := by
 have hc := fun j u (hu : (aa7 L[i])[j]? = some u) => h.get i hi j u hu
 rcases hx : L[i] with ⟨⟨xf, xg, xb⟩, pv, tv, zu, zy⟩
 rw [hx] at hc hr
 obtain ⟨pa, pc, rfl, h1⟩ : ∃ a c, pv = .slice a zu.length c ∧ zu.length ≤ maxLen := hr.p.len
 obtain ⟨ta, tc, rfl, h2⟩ : ∃ a c, tv = .slice a zy.length c ∧ zy.length ≤ maxLen := hr.s.len
 exact ⟨xf, xg, xb, pa, pc, ta, tc, zu, zy, rfl, h1, h2, hc 0 _ rfl, hc 1 _ rfl, hc 2 _ rfl, hc 3 _ rfl, hc 4 _ rfl⟩
theorem agb {w : World} {g off n cap : Nat} {L : List He} (h : Slc adp 4 w (.slice (some ⟨g, off, none⟩) n cap) L) {i : Nat} (hi : i < L.length) :
 ∃ (xf : Int) (xg xb : ByteArray) (c : Bool), L[i] = ⟨(xf, xg, xb), c⟩ ∧ w.cell? ⟨g, off + i * 4, none⟩ = some (.int .u32 xf) ∧ w.cell? ⟨g, off + i * 4 + 1, none⟩ = some (.string xg) ∧ w.cell? ⟨g, off + i * 4 + 2, none⟩ = some (.string xb) ∧ w.cell? ⟨g, off + i * 4 + 3, none⟩ = some (.bool c) := by
 have hc := fun j u (hu : (adp L[i])[j]? = some u) => h.get i hi j u hu
 rcases hx : L[i] with ⟨⟨xf, xg, xb⟩, c⟩
 rw [hx] at hc
 exact ⟨xf, xg, xb, c, rfl, hc 0 _ rfl, hc 1 _ rfl, hc 2 _ rfl, hc 3 _ rfl⟩
def acv {α κ : Type} (c : κ → κ → Int) (k : α → κ) (L : List α) (x : κ) : Bool := L.any (fun a => decide (c (k a) x = 0))
theorem adr {α κ : Type} {c : κ → κ → Int} (hc : IsCmp c) {k : α → κ} {L : List α} {x : κ} : acv c k L x = true ↔ ∃ a ∈ L, k a = x := by
 unfold acv
 rw [List.any_eq_true]
 exact ⟨fun ⟨a, h, e⟩ => ⟨a, h, (hc.eq _ _).1 (qt e)⟩, fun ⟨a, h, e⟩ => ⟨a, h, qp ((hc.eq _ _).2 e)⟩⟩
abbrev RisK {α κ : Type} (c : κ → κ → Int) (k : α → κ) (L : List α) : Prop := L.Pairwise (fun a b => c (k a) (k b) < 0)
theorem ayh {α κ : Type} {c : κ → κ → Int} (hc : IsCmp c) {k : α → κ} {L : List α} (h : RisK c k L) {i j : Nat} (hi : i < L.length) (hj : j < L.length) (hij : i ≤ j) : c (k L[i]) (k L[j]) ≤ 0 := by
 rcases Nat.lt_or_eq_of_le hij with q | q
 ·exact Int.le_of_lt (List.pairwise_iff_getElem.1 h i j hi hj q)
 ·subst q; exact Int.le_of_eq (hc.refl _)
theorem amg {α κ : Type} {c : κ → κ → Int} (hc : IsCmp c) {k : α → κ} {L : List α} {x : κ} (h : RisK c k L) {i : Nat} (hi : i < L.length) (hq : c (k L[i]) x < 0) : ∀ j, (hj : j < L.length) → j < i + 1 → c (k L[j]) x < 0 :=
 fun j hj h' => hc.le_lt (ayh hc h hj hi (by omega)) hq
theorem aij {α κ : Type} {c : κ → κ → Int} (hc : IsCmp c) {k : α → κ} {L : List α} {x : κ} (h : RisK c k L) {i : Nat} (hi : i < L.length) (hq : ¬ c (k L[i]) x < 0) : ∀ j, (hj : j < L.length) → i ≤ j → 0 ≤ c (k L[j]) x := fun j hj h' => by
 by_cases h1 : c (k L[j]) x < 0
 ·exact jp (hc.le_lt (ayh hc h hi hj h') h1) hq
 ·omega
theorem amh {α κ : Type} {c : κ → κ → Int} (hc : IsCmp c) {k : α → κ} {L : List α} {x : κ} {i : Nat} (hr : RisK c k L) (hi : i ≤ L.length) (h1 : ∀ j, (hj : j < L.length) → j < i → c (k L[j]) x < 0) (h2 : ∀ j, (hj : j < L.length) → i ≤ j → 0 ≤ c (k L[j]) x) :
 lbK c k L x = i ∧ acv c k L x = decide (∃ h : i < L.length, c (k L[i]) x = 0) := by
 refine ⟨azb hi h1 (fun h => by have := h2 i h (qj _); omega), ?_⟩
 rw [Bool.eq_iff_iff, qm]
 unfold acv
 rw [List.any_eq_true]
 constructor
 ·rintro ⟨a, ha, e⟩
  obtain ⟨j, hj, rfl⟩ := List.getElem_of_mem ha; have e := qt e
  have hij : i ≤ j := by
   rcases Nat.lt_or_ge j i with q | q
   ·have := h1 j hj q; omega
   ·exact q
  rcases Nat.lt_or_eq_of_le hij with q | q
  ·have hi' : i < L.length := by omega
   have q1 := hc.lt_le (List.pairwise_iff_getElem.1 hr i j hi' hj q) (Int.le_of_eq e); have q2 := h2 i hi' (qj _); omega
  ·subst q; exact ⟨hj, e⟩
 ·rintro ⟨h, e⟩
  exact ⟨L[i], qy h, qp e⟩
theorem aec {α κ : Type} {c : κ → κ → Int} (hc : IsCmp c) {k : α → κ} {L : List α} {x : κ} (hr : RisK c k L) (h : acv c k L x = true) : ∃ h : lbK c k L x < L.length, k L[lbK c k L x] = x := by
 obtain ⟨a, ha, e⟩ := (adr hc).1 h
 obtain ⟨j, hj, rfl⟩ := List.getElem_of_mem ha
 have hl : lbK c k L x = j := azb (by omega) (fun i hi hij => by
  have := List.pairwise_iff_getElem.1 hr i j hi hj hij
  rw [e] at this; exact this) (fun _ => by rw [e, hc.refl]; omega)
 rw [hl]
 exact ⟨hj, e⟩
theorem ad6 {α β κ : Type} {c : κ → κ → Int} {k : β → κ} {g : α → β} {L : List α} : RisK c k (L.map g) ↔ RisK c (fun a => k (g a)) L := List.pairwise_map
theorem ajn {P : Prop} (h : P := by
 simp only [jv]
 exact ⟨fun ⟨a, h, e⟩ => ⟨_, ⟨a, h, rfl⟩, e⟩, fun ⟨_, ⟨a, h, rfl⟩, e⟩ => ⟨a, h, e⟩⟩) : P := h
theorem anm (qs : List QuT) (n : ByteArray) : acv abf QuT.name qs n = ad0 (qs.map QuT.q) n := by
 rw [Bool.eq_iff_iff, adr cmpB_ok, ag4]
 exact ajn
theorem bbt (l : List BrT) (x : Xn) : acv aav BrT.x l x = amu (l.map BrT.b) x := by
 rw [Bool.eq_iff_iff, adr abu, awi]
 exact ajn
theorem bc9 (l : List He) (x : Xn) : acv aav He.x l x = ard l x := by
 rw [Bool.eq_iff_iff, adr abu, awj]
theorem awq {n : Int} {qs : List QuT} (h : qsB n (qs.map QuT.q) = true) : RisK abf QuT.name qs := by
 unfold qsB at h
 rw [jj, ad4 cmpB_ok] at h
 exact (ad6 (c := abf) (k := Qu.name) (g := QuT.q)).1 h.2
theorem bd3 {n : Int} {qs : List QuT} (h : qsB n (qs.map QuT.q) = true) {q : QuT} (hq : q ∈ qs) : RisK ad8 MsT.id q.zw := by
 unfold qsB at h
 simp only [jj, jt] at h
 have h1 := h.1 q.q (jv.2 ⟨q, hq, rfl⟩)
 unfold Qu.okB at h1
 rw [jj, ad4 adn] at h1
 exact (ad6 (c := ad8) (k := Ms.id) (g := MsT.m)).1 h1.2
theorem bd4 {qs : List Qu} {l : List BrT} (h : ane qs (l.map BrT.b) = true) : RisK aav BrT.x l := by
 unfold ane at h
 rw [jj, ad4 abu] at h
 exact (ad6 (c := aav) (k := Br.x) (g := BrT.b)).1 h.2
theorem azp {qs : List QuT} {n : Int} {r : Rf} (h : qsB n (qs.map QuT.q) = true) :
 hasM (qs.map QuT.q) r = (ad0 (qs.map QuT.q) r.q && (if hl : lbK abf QuT.name qs r.q < qs.length then acv ad8 MsT.id (qs[lbK abf QuT.name qs r.q]).zw r.id else false)) := by
 rw [Bool.eq_iff_iff, ad1, jj, ← anm]
 have hr := awq h
 constructor
 ·rintro ⟨q, hq, hn, m, hm, hi⟩
  obtain ⟨t, ht, rfl⟩ := jv.1 hq; have hh : acv abf QuT.name qs r.q = true := (adr cmpB_ok).2 ⟨t, ht, hn⟩; obtain ⟨h1, h2⟩ := aec cmpB_ok hr hh; refine ⟨hh, ?_⟩; rw [dif_pos h1]
  have e : qs[lbK abf QuT.name qs r.q] = t := by
   obtain ⟨j, hj, rfl⟩ := List.getElem_of_mem ht
   have hl : lbK abf QuT.name qs r.q = j := by
    have hn' : (qs[j]).name = r.q := hn; rcases Nat.lt_trichotomy (lbK abf QuT.name qs r.q) j with q | q | q
    ·have := List.pairwise_iff_getElem.1 hr _ _ h1 hj q; rw [h2, hn', cmpB_ok.refl] at this; omega
    ·exact q
    ·have := List.pairwise_iff_getElem.1 hr _ _ hj h1 q; rw [h2, hn', cmpB_ok.refl] at this; omega
   simp only [hl]
  rw [e]; obtain ⟨y, hy, rfl⟩ := jv.1 hm; exact (adr adn).2 ⟨y, hy, hi⟩
 ·rintro ⟨hh, hm⟩
  obtain ⟨h1, h2⟩ := aec cmpB_ok hr hh; rw [dif_pos h1] at hm; obtain ⟨y, hy, hi⟩ := (adr adn).1 hm; exact ⟨_, jv.2 ⟨_, qy h1, rfl⟩, h2, _, jv.2 ⟨y, hy, rfl⟩, hi⟩
theorem bda (w : World) (x : Int) : Calls prog 154 #[.int .u32 x] w fun e w' => e = .returned (.bool false) ∧ w = w' := by
 go_enter func154, ntmps154
 go_wp2
 go_ret
 exact ⟨by simp, rfl⟩
theorem ahj {P : Prop} (h : P := by
 go_enter func118, ntmps118
 go_wp2_with (first | (go_at_call 154; refine (bda _ _).mono ?_; rintro e w' ⟨rfl, rfl⟩))
 go_ret
 exact ⟨rfl, rfl⟩) : P := h
theorem bdb (w : World) (a b : Int) : Calls prog 118 #[.int .u32 a, .int .u32 b] w fun e w' => e = .returned (.int .i64 (ad8 a b)) ∧ w = w' := by
 unfold ad8
 by_cases h1 : a < b
 ·rw [qw h1]
  exact ahj
 ·rw [qk h1]
  by_cases h2 : b < a
  ·rw [qw h2]
   exact ahj
  ·rw [qk h2]
   exact ahj
theorem awr (w : World) (a b : ByteArray) : Calls prog 153 #[.string a, .string b] w fun e w' => e = .returned (.int .i64 (abf a b)) ∧ w = w' := by
 go_enter func153, ntmps153
 go_wp2
 rw [run_callFunc_extern func189 (by kernel_rfl) (by kernel_rfl) (by kernel_rfl) (e := Extern.BytealgCompare.compare) (by kernel_rfl), Lib.run_compareString]
 simp only [Result.andThen]
 rw [Oper.upon_value]
 go_wp2
 go_ret
 exact ⟨rfl, rfl⟩
theorem apa (w : World) (a b : ByteArray) : Calls prog 114 #[.string a, .string b] w fun e w' => e = .returned (.int .i64 (abf a b)) ∧ w = w' := by
 go_enter func114, ntmps114
 go_wp2_with (go_at_call 153; refine (awr _ _ _).mono ?_; rintro e w' ⟨rfl, rfl⟩)
 go_ret
 exact ⟨rfl, rfl⟩
theorem bbu (w : World) (v : Value) (L : List Int) (hs : Slc (anb .i64) 1 w v L) : Calls prog 117 #[v] w fun e w' => e = .returned (.int .i64 (orI L)) ∧ w = w' := by
 obtain ⟨a, cap, rfl, hm⟩ := hs.len
 unfold maxLen at hm
 go_enter func117, ntmps117
 go_wp2
 go_loop [8] (fun s8 => ∃ k : Nat, k ≤ L.length ∧ s8 = .int .i64 k ∧ ∀ j, (hj : j < L.length) → j < k → L[j] = 0) (fun s8 => L.length - (intOf s8).toNat)
 case atStart => exact ⟨0, by omega, rfl, fun j hj h => by omega⟩
 case round =>
  obtain ⟨k, hk, rfl, hz⟩ := hrel; have hz' := qq hz; clear hz; by_cases hlt : k < L.length
  ·obtain ⟨g, off, rfl, c0⟩ := hs.load k hlt
   by_cases hq : L[k] = 0
   ·have hqb : (L[k] != 0) = false := by rw [hq]; rfl
    have hq' := qq hq; clear hq; go_wp2; go_round
    case rel => exact ⟨k + 1, by omega, by go_num, fun j hj hjk => by
     rcases Nat.lt_or_ge j k with h | h
     ·exact hz'.out j hj h
     ·have : j = k := by omega
      subst this; exact hq'.out⟩
    case measure => simp [intOf]; omega
   ·have hqb : (L[k] != 0) = true := by simpa using hq
    have hq' := qq hq; clear hq; go_wp2; go_ret; exact ⟨by rw [awe hlt (fun j hj => hz'.out j (by omega) hj), qw hq'.out]; rfl, rfl⟩
  ·obtain rfl : k = L.length := by omega
   go_wp2; go_ret; exact ⟨by rw [awf (fun j hj => hz'.out j hj hj)]; rfl, rfl⟩
theorem aws {w : World} {g : Nat} {a b c : Int} (h0 : w.cell? ⟨g, 0, none⟩ = some (.int .i64 a)) (h1 : w.cell? ⟨g, 1, none⟩ = some (.int .i64 b)) (h2 : w.cell? ⟨g, 2, none⟩ = some (.int .i64 c)) :
 Calls prog 117 #[.slice (some ⟨g, 0, none⟩) 3 3] w fun e w' => e = .returned (.int .i64 (orI [a, b, c])) ∧ w = w' :=
 bbu w _ [a, b, c] (.inr ⟨g, 0, 3, rfl, by simp, by unfold maxLen; omega, fun i hi j u hu => by
  match i, hi with
  | 0, _ => match j with
   | 0 => exact h0.trans hu
   | j + 1 => simp [anb] at hu
  | 1, _ => match j with
   | 0 => exact h1.trans hu
   | j + 1 => simp [anb] at hu
  | 2, _ => match j with
   | 0 => exact h2.trans hu
   | j + 1 => simp [anb] at hu⟩)
theorem Slc.drew {α : Type} {enc : α → List Value} {m : Nat} {w : World} {v : Value} {L : List α} (h : Slc enc m w v L) : Slc enc m w.drew v L := h
theorem atx {B : Nat} {a w : World} (h : Below B a w) (n : Nat) : Below B a (w.drewN n) := ⟨h.os, h.tape, h.output, h.size, h.block⟩
theorem ami (W : World) (cs : List Value) (T : TypeId) (g : Nat) (hg : g = W.heap.size) (i : Nat) : (W.alloc (.cells cs.toArray T)).drew.cell? ⟨g, i, none⟩ = cs[i]? := by
 subst hg; exact (Blk.new W cs T).cell i
theorem ajo (w : World) (x y : Xid) :
 Calls prog 51 #[.agg #[.int .u32 x.1, .string x.2.1, .string x.2.2], .agg #[.int .u32 y.1, .string y.2.1, .string y.2.2]] w fun e w' => e = .returned (.int .i64 (aav x y)) ∧ Below w.heap.size w w' := by
 obtain ⟨xf, xg, xb⟩ := x
 obtain ⟨yf, yg, yb⟩ := y
 simp only
 have hr : orI [ad8 xf yf, abf xg yg, abf xb yb] = aav (xf, xg, xb) (yf, yg, yb) := by simp only [orI, aav, ay9, atk]; split <;> (try split) <;> (try split) <;> simp_all
 have hr' := qq hr; clear hr
 go_enter func51, ntmps51
 go_wp2
 go_region_held3 (fun w' => w'.cell? ⟨w.heap.size, 0, none⟩ = some (.int .u32 xf) ∧ w'.cell? ⟨w.heap.size, 1, none⟩ = some (.string xg) ∧ w'.cell? ⟨w.heap.size, 2, none⟩ = some (.string xb) ∧ w'.cell? ⟨w.heap.size + 1, 0, none⟩ = some (.int .u32 yf) ∧ w'.cell? ⟨w.heap.size + 1, 1, none⟩ = some (.string yg) ∧ w'.cell? ⟨w.heap.size + 1, 2, none⟩ = some (.string yb)) (go_keep)
  (first | (go_at_call 118; refine (bdb _ _ _).mono ?_; rintro e w' ⟨rfl, rfl⟩) | (go_at_call 114; refine (apa _ _ _).mono ?_; rintro e w' ⟨rfl, rfl⟩) | (go_at_call 117; refine (aws (a := ad8 xf yf) (b := abf xg yg) (c := abf xb yb) (ami _ _ _ _ ?_ 0) (ami _ _ _ _ ?_ 1) (ami _ _ _ _ ?_ 2)).mono ?_; (simp); (simp); (simp); rintro e w' ⟨rfl, rfl⟩))
 go_wp2
 go_ret
 exact ⟨by rw [hr'.out]; rfl, aad ((((qz _ _).alloc (qj _) _).alloc (by simp) _).alloc (by simp; omega) _)⟩
theorem aty : (prog.info? 34).map (fun i => (i.zero, i.size)) = some (some (.agg #[.int .u8 0, .string ⟨#[]⟩, .int .u64 0, .int .u32 0, .string ⟨#[]⟩, .string ⟨#[]⟩, .slice none 0 0, .slice none 0 0]), 8) := by kernel_rfl
theorem ahk : (prog.info? 30).map (fun i => (i.zero, i.size)) = some (some (.agg #[.int .u32 0, .string ⟨#[]⟩, .string ⟨#[]⟩]), 3) := by kernel_rfl
theorem aba {S : Nat → Prop} {w w' : World} (h : Upd S w w') (B : Nat) (j : Nat) (v : Value) (hB : S B) : Upd S w (w'.setCell ⟨B, j, none⟩ v) := h.trans (Upd.set (S := S) (p := ⟨B, j, none⟩) hB v) (fun _ h _ => h)
theorem Blk.newE (w : World) (cs : List Value) (T : TypeId) (k : Nat) (h : w.heap.size = k) : Blk (w.alloc (.cells cs.toArray T)) k cs := h ▸ Blk.new w cs T
end Go.Proofs.YtgnaifhmcllnlaaGreatDoor
