/- Entries in memory of their own: the puts', the takes' and the values' blocks apart. Conditions: none. (Texts joined.) -/
import Derived.Test.YtlonokcaddpniaaGreatDoorPG
import Derived.Test.YtlonokcaddpniaaGreatDoorPA
import Derived.Test.YtlonokcaddpniaaGreatDoorKC
import Derived.Test.YtlonokcaddpniaaGreatDoorKA
set_option linter.unusedSimpArgs false
set_option linter.unusedVariables false
namespace Go.Proofs.YtlonokcaddpniaaGreatDoor
/-- Is it a queue's name? -/
def qn (s : ByteArray) : Bool := decide (1 ≤ s.size) && decide (s.size ≤ 40) && s.data.toList.all (fun c => decide (33 ≤ c.toNat) && decide (c.toNat ≤ 126))
def idOk (n : Int) : Bool := decide (1 ≤ n) && decide (n ≤ 1099511627776)
/-- What a kind uses: 1 its name, 2 its number, 4 its branch, 8 its puts and takes; 0: there is no such kind. -/
def us (k : Int) : Nat := if k = 1 then 3 else if k = 2 then 1 else if k = 3 then 8 else if k = 4 then 12 else if k = 5 ∨ k = 7 then 6 else if k = 6 ∨ k = 8 ∨ k = 9 then 4 else 0
def uN (k : Int) : Bool := us k % 2 == 1
def uM (k : Int) : Bool := us k / 2 % 2 == 1
def uX (k : Int) : Bool := us k / 4 % 2 == 1
def uW (k : Int) : Bool := us k / 8 % 2 == 1
end Go.Proofs.YtlonokcaddpniaaGreatDoor
namespace Go.Proofs.YtlonokcaddpniaaGreatDoor
theorem prV_wf (b : List UInt8) : (prV (pgO b)).app.Wf := by
  have h := pgO_got b; rcases ho : pgO b with _ | p
  · exact zero_wf
  · rw [ho] at h; exact h.1
theorem pgO_bytes {p : Pr} (hw : p.app.Wf) (h : p.chk = 0) : pgO p.bytes = some p := prGot_put hw h (pgO_got _)
/-- A branch's name: its format, its global part, its own. -/
abbrev Xn := Int × ByteArray × ByteArray
def Xn.zero : Xn := (0, ⟨#[]⟩, ⟨#[]⟩)
def Xn.okB (x : Xn) : Bool := decide (0 < x.2.1.size) && decide (x.2.1.size ≤ 64) && decide (x.2.2.size ≤ 64)
/-- A message that is put. -/
structure Pt where
  q : ByteArray
  id : Int
  pr : Pr
  body : ByteArray
/-- A message's name. -/
structure Rf where
  q : ByteArray
  id : Int
/-- An entry. -/
structure En where
  kind : Int
  name : ByteArray
  n : Int
  x : Xn
  puts : List Pt
  takes : List Rf
def En.zero : En := ⟨0, ⟨#[]⟩, 0, Xn.zero, [], []⟩
/-- May properties be, and are they not too long? -/
def Pr.smallB (p : Pr) : Bool := decide (p.chk = 0) && decide (p.bytes.length ≤ 8192)
def Pt.okB (num : Bool) (p : Pt) : Bool := qn p.q && (idOk p.id == num) && (num || decide (p.id = 0)) && decide (p.body.size ≤ 4096) && p.pr.smallB
def Rf.okB (r : Rf) : Bool := qn r.q && idOk r.id
def En.okB (e : En) : Bool :=
  !(us e.kind == 0) && (if uN e.kind then qn e.name else e.name.size == 0) && (if uM e.kind then idOk e.n else e.n == 0) && (if uX e.kind then Xn.okB e.x else (e.x.1 == 0 && e.x.2.1.size == 0 && e.x.2.2.size == 0)) &&
  (uW e.kind || (e.puts.isEmpty && e.takes.isEmpty)) && decide (e.puts.length ≤ 100) && decide (e.takes.length ≤ 100) && e.puts.all (Pt.okB (e.kind == 3)) && e.takes.all Rf.okB
def En.chk (e : En) : Int := if e.okB then 0 else 130
theorem en_chk (e : En) : e.chk = 0 ∨ e.chk = 130 := by unfold En.chk; split; exact .inl rfl; exact .inr rfl
theorem en_ok {e : En} : e.chk = 0 ↔ e.okB = true := by unfold En.chk; cases e.okB <;> simp
/-- A short text. -/
def sT (s : ByteArray) : List UInt8 := UInt8.ofNat s.size :: s.data.toList
def Xn.bytes (x : Xn) : List UInt8 := be 4 x.1.toNat ++ (sT x.2.1 ++ sT x.2.2)
def Pt.bytes (p : Pt) : List UInt8 := sT p.q ++ (be 8 p.id.toNat ++ (be 4 p.pr.bytes.length ++ (p.pr.bytes ++ (be 2 p.body.size ++ p.body.data.toList))))
def Rf.bytes (r : Rf) : List UInt8 := sT r.q ++ be 8 r.id.toNat
def En.bytes (e : En) : List UInt8 :=
  UInt8.ofNat e.kind.toNat :: ((if uN e.kind then sT e.name else []) ++ ((if uM e.kind then be 8 e.n.toNat else []) ++ ((if uX e.kind then Xn.bytes e.x else []) ++
    (if uW e.kind then UInt8.ofNat e.puts.length :: (e.puts.flatMap Pt.bytes ++ UInt8.ofNat e.takes.length :: e.takes.flatMap Rf.bytes) else []))))
def En.text (e : En) : ByteArray := ⟨e.bytes.toArray⟩
theorem en_text {e : En} {s : ByteArray} : e.text = s ↔ e.bytes = s.data.toList := by
  unfold En.text; constructor
  · intro h; rw [← h]
  · intro h; rw [h]
/-- How a list is read: so many, or until the reader gave up. -/
def gtA {α : Type} (one : RS → α × RS) : Nat → RS → List α × RS
  | 0, r => ([], r)
  | n + 1, r => if r.2 = true then ([], r) else ((one r).1 :: (gtA one n (one r).2).1, (gtA one n (one r).2).2)
def rdPt (N : Nat) (r : RS) : Pt × RS :=
  let a := txR 1 255 r
  let b := nmR 8 a.2
  let c := txR 4 N b.2
  let d := txR 2 65535 c.2
  (⟨a.1, b.1, prV (pgO c.1.data.toList), d.1⟩, d.2)
def rdRf (r : RS) : Rf × RS :=
  let a := txR 1 255 r
  let b := nmR 8 a.2
  (⟨a.1, b.1⟩, b.2)
def rdX (r : RS) : Xn × RS :=
  let a := nmR 4 r
  let b := txR 1 255 a.2
  let c := txR 1 255 b.2
  ((a.1, b.1, c.1), c.2)
def rdW (N : Nat) (r : RS) : (List Pt × List Rf) × RS :=
  let a := nmR 1 r
  let b := gtA (rdPt N) a.1 a.2
  let c := nmR 1 b.2
  let d := gtA rdRf c.1 c.2
  ((b.1, d.1), d.2)
/-- What stands as an entry, as far as it goes (the program's way). -/
def egP (b : List UInt8) : En × RS :=
  let k := nmR 1 (b, false)
  let a := if uN k.1 then txR 1 255 k.2 else (⟨#[]⟩, k.2)
  let c := if uM k.1 then nmR 8 a.2 else (0, a.2)
  let d := if uX k.1 then rdX c.2 else (Xn.zero, c.2)
  let f := if uW k.1 then rdW b.length d.2 else (([], []), d.2)
  (⟨k.1, a.1, c.1, d.1, f.1.1, f.1.2⟩, f.2)
/-- The document's way to read a branch's name. -/
def dgX (r : RS) : Xn × RS :=
  let y := rdX (r.1, false)
  if y.2.2 = false ∧ Xn.okB y.1 = true then (y.1, (tkR (r.1.length - y.2.1.length) r).2) else (Xn.zero, (tkR 0 r).2)
def egD (b : List UInt8) : En :=
  let k := nmR 1 (b, false)
  let a := if uN k.1 then txR 1 255 k.2 else (⟨#[]⟩, k.2)
  let c := if uM k.1 then nmR 8 a.2 else (0, a.2)
  let d := if uX k.1 then dgX c.2 else (Xn.zero, c.2)
  let f := if uW k.1 then rdW b.length d.2 else (([], []), d.2)
  ⟨k.1, a.1, c.1, d.1, f.1.1, f.1.2⟩
/-- Numbers in their ranges. -/
structure En.Wf (e : En) : Prop where
  k0 : 0 ≤ e.kind
  k1 : e.kind < 256
  n0 : 0 ≤ e.n
  n1 : e.n < 18446744073709551616
  x0 : 0 ≤ e.x.1
  x1 : e.x.1 < 4294967296
  p : ∀ p ∈ e.puts, 0 ≤ p.id ∧ p.id < 18446744073709551616 ∧ p.pr.app.Wf
  t : ∀ r ∈ e.takes, 0 ≤ r.id ∧ r.id < 18446744073709551616
theorem sT_put (s : ByteArray) (h : s.size ≤ 255) (b : List UInt8) : txR 1 255 (sT s ++ b, false) = (s, (b, false)) := txR_put s h b
theorem nm_put (w : Nat) (n : Int) (h0 : 0 ≤ n) (h : n < ((256 ^ w : Nat) : Int)) (b : List UInt8) : nmR w (be w n.toNat ++ b, false) = (n.toNat, (b, false)) := nmR_be w n.toNat (by omega) b
theorem tx_put (w most : Nat) (s : ByteArray) (hm : s.size ≤ most) (h : s.size < 256 ^ w) (b : List UInt8) : txR w most (be w s.size ++ (s.data.toList ++ b), false) = (s, (b, false)) := by
  unfold txR; rw [if_pos rfl]; show (match gT w most (be w s.size ++ (s.data.toList ++ b)) with | some (s, b) => (s, ((b, false) : RS)) | none => (⟨#[]⟩, ([], true))) = _
  rw [gT_put w most s h hm b]
theorem gtA_put {α : Type} (one : RS → α × RS) (by' : α → List UInt8) : ∀ (L : List α) (b : List UInt8), (∀ x ∈ L, ∀ c, one (by' x ++ c, false) = (x, (c, false))) → gtA one L.length (L.flatMap by' ++ b, false) = (L, (b, false))
  | [], b, _ => rfl
  | x :: L, b, h => by
    rw [List.flatMap_cons, List.append_assoc, List.length_cons]; unfold gtA; rw [if_neg (by simp), h x (by simp), gtA_put one by' L b (fun y hy => h y (by simp [hy]))]
theorem text_toList (p : Pr) : p.text.data.toList = p.bytes := rfl
theorem rdPt_put (N : Nat) (p : Pt) (num : Bool) (h : Pt.okB num p = true) (h0 : 0 ≤ p.id) (h1 : p.id < 18446744073709551616) (hw : p.pr.app.Wf) (hN : p.pr.bytes.length ≤ N) (c : List UInt8) : rdPt N (p.bytes ++ c, false) = (p, (c, false)) := by
  unfold Pt.okB at h; simp only [Bool.and_eq_true, decide_eq_true_eq] at h; obtain ⟨⟨⟨⟨hq, -⟩, -⟩, hb⟩, hp⟩ := h; unfold Pr.smallB at hp; simp only [Bool.and_eq_true, decide_eq_true_eq] at hp; have hq1 : p.q.size ≤ 40 := by unfold qn at hq; simp only [Bool.and_eq_true, decide_eq_true_eq] at hq; exact hq.1.2
  unfold rdPt Pt.bytes; simp only [List.append_assoc]; rw [sT_put p.q (by omega)]; dsimp only; rw [nm_put 8 p.id h0 h1]; dsimp only; have e : be 4 p.pr.bytes.length ++ (p.pr.bytes ++ (be 2 p.body.size ++ (p.body.data.toList ++ c))) = be 4 p.pr.text.size ++ (p.pr.text.data.toList ++ (be 2 p.body.size ++ (p.body.data.toList ++ c))) := rfl; have hz : p.pr.text.size = p.pr.bytes.length := rfl; rw [e, tx_put 4 N p.pr.text (by rw [hz]; exact hN) (by rw [hz]; omega)]; dsimp only; rw [tx_put 2 65535 p.body (by omega) (by omega)]; dsimp only; rw [text_toList, pgO_bytes hw hp.1, Int.toNat_of_nonneg h0]; rfl
theorem rdRf_put (r : Rf) (h : Rf.okB r = true) (h0 : 0 ≤ r.id) (h1 : r.id < 18446744073709551616) (c : List UInt8) : rdRf (r.bytes ++ c, false) = (r, (c, false)) := by
  unfold Rf.okB at h; simp only [Bool.and_eq_true] at h; have hq1 : r.q.size ≤ 40 := by have hq := h.1; unfold qn at hq; simp only [Bool.and_eq_true, decide_eq_true_eq] at hq; exact hq.1.2
  unfold rdRf Rf.bytes; simp only [List.append_assoc]; rw [sT_put r.q (by omega)]; dsimp only; rw [nm_put 8 r.id h0 h1]; dsimp only; rw [Int.toNat_of_nonneg h0]
theorem rdX_put (x : Xn) (h : Xn.okB x = true) (h0 : 0 ≤ x.1) (h1 : x.1 < 4294967296) (c : List UInt8) : rdX (Xn.bytes x ++ c, false) = (x, (c, false)) := by
  unfold Xn.okB at h; simp only [Bool.and_eq_true, decide_eq_true_eq] at h; unfold rdX Xn.bytes; simp only [List.append_assoc]; rw [nm_put 4 x.1 h0 h1]; dsimp only; rw [sT_put x.2.1 (by omega)]; dsimp only; rw [sT_put x.2.2 (by omega)]; dsimp only; rw [Int.toNat_of_nonneg h0]
theorem xbytes_len (x : Xn) : (Xn.bytes x).length = 6 + x.2.1.size + x.2.2.size := by
  unfold Xn.bytes sT; simp only [List.length_append, be_len, List.length_cons, ba_len]; omega
theorem dgX_put (x : Xn) (h : Xn.okB x = true) (h0 : 0 ≤ x.1) (h1 : x.1 < 4294967296) (c : List UInt8) : dgX (Xn.bytes x ++ c, false) = (x, (c, false)) := by
  unfold dgX; dsimp only; rw [rdX_put x h h0 h1 c]; dsimp only; rw [if_pos ⟨rfl, h⟩, List.length_append, Nat.add_sub_cancel, tkR_app]
theorem nm_one (n : Nat) (h : n < 256) (b : List UInt8) : nmR 1 (UInt8.ofNat n :: b, false) = (n, (b, false)) := by
  have := nmR_be 1 n (by omega) b; rw [be_one h] at this; exact this
theorem rdW_put (N : Nat) (P : List Pt) (T : List Rf) (num : Bool) (hP : P.length ≤ 100) (hT : T.length ≤ 100) (h : P.all (Pt.okB num) = true) (k : T.all Rf.okB = true)
    (wP : ∀ p ∈ P, 0 ≤ p.id ∧ p.id < 18446744073709551616 ∧ p.pr.app.Wf) (wT : ∀ r ∈ T, 0 ≤ r.id ∧ r.id < 18446744073709551616) (hN : ∀ p ∈ P, p.pr.bytes.length ≤ N) :
    rdW N (UInt8.ofNat P.length :: (P.flatMap Pt.bytes ++ UInt8.ofNat T.length :: T.flatMap Rf.bytes), false) = ((P, T), ([], false)) := by
  rw [List.all_eq_true] at h k; unfold rdW; rw [nm_one _ (by omega)]; dsimp only; rw [gtA_put (rdPt N) Pt.bytes P _ (fun p hp c => rdPt_put N p num (h p hp) (wP p hp).1 (wP p hp).2.1 (wP p hp).2.2 (hN p hp) c)]; dsimp only; rw [nm_one _ (by omega)]; dsimp only; have e := gtA_put rdRf Rf.bytes T [] (fun r hr c => rdRf_put r (k r hr) (wT r hr).1 (wT r hr).2 c); rw [List.append_nil] at e; rw [e]
theorem mem_len {α : Type} (f : α → List UInt8) : ∀ (L : List α) (x : α), x ∈ L → (f x).length ≤ (L.flatMap f).length
  | y :: L, x, h => by
    rw [List.flatMap_cons, List.length_append]; rcases List.mem_cons.1 h with rfl | h
    · omega
    · have := mem_len f L x h; omega
theorem xzero_of {x : Xn} (h : (x.1 == 0 && x.2.1.size == 0 && x.2.2.size == 0) = true) : x = Xn.zero := by
  obtain ⟨a, b, c⟩ := x; simp only [Bool.and_eq_true, beq_iff_eq] at h; obtain ⟨⟨rfl, hb⟩, hc⟩ := h; rw [size0 hb, size0 hc]; rfl
theorem eg_put (e : En) (hw : e.Wf) (h : e.okB = true) (rd : RS → Xn × RS) (hrd : ∀ x, Xn.okB x = true → 0 ≤ x.1 → x.1 < 4294967296 → ∀ c, rd (Xn.bytes x ++ c, false) = (x, (c, false))) (b : List UInt8) (hb : e.bytes = b) :
    (let k := nmR 1 (b, false)
     let a := if uN k.1 then txR 1 255 k.2 else (⟨#[]⟩, k.2)
     let c := if uM k.1 then nmR 8 a.2 else (0, a.2)
     let d := if uX k.1 then rd c.2 else (Xn.zero, c.2)
     let f := if uW k.1 then rdW b.length d.2 else (([], []), d.2)
     ((⟨k.1, a.1, c.1, d.1, f.1.1, f.1.2⟩ : En), f.2)) = (e, (([], false) : RS)) := by
  obtain ⟨kind, name, n, x, puts, takes⟩ := e; unfold En.okB at h; simp only [Bool.and_eq_true, Bool.or_eq_true, decide_eq_true_eq] at h; obtain ⟨⟨⟨⟨⟨⟨⟨⟨-, h1⟩, h2⟩, h3⟩, h4⟩, h5⟩, h6⟩, h7⟩, h8⟩ := h; have k0 := hw.k0; have k1 := hw.k1; have n0 := hw.n0; have n1 := hw.n1; dsimp only at k0 k1 n0 n1
  have hL : ∀ p ∈ puts, p.pr.bytes.length ≤ b.length ∨ uW kind = false := by
    intro p hp
    cases hu : uW kind with
    | false => exact .inr rfl
    | true =>
      left; have h9 := mem_len Pt.bytes puts p hp; have h10 : p.pr.bytes.length ≤ p.bytes.length := by unfold Pt.bytes; simp only [List.length_append]; omega
      rw [← hb]; unfold En.bytes; dsimp only; rw [hu, if_pos rfl]; simp only [List.length_append, List.length_cons]; omega
  have e0 : b = UInt8.ofNat kind.toNat :: ((if uN kind then sT name else []) ++ ((if uM kind then be 8 n.toNat else []) ++ ((if uX kind then Xn.bytes x else []) ++
    (if uW kind then UInt8.ofNat puts.length :: (puts.flatMap Pt.bytes ++ UInt8.ofNat takes.length :: takes.flatMap Rf.bytes) else [])))) := hb.symm
  have hk : ((kind.toNat : Nat) : Int) = kind := Int.toNat_of_nonneg k0; obtain ⟨M, hM⟩ : ∃ M, b.length = M := ⟨_, rfl⟩
  rw [hM] at hL ⊢; rw [e0, nm_one _ (by omega)]; dsimp only; rw [hk]
  have s1 : (if uN kind = true then txR 1 255 ((if uN kind then sT name else []) ++ ((if uM kind then be 8 n.toNat else []) ++ ((if uX kind then Xn.bytes x else []) ++
    (if uW kind then UInt8.ofNat puts.length :: (puts.flatMap Pt.bytes ++ UInt8.ofNat takes.length :: takes.flatMap Rf.bytes) else []))), false) else (⟨#[]⟩, ((if uN kind then sT name else []) ++ ((if uM kind then be 8 n.toNat else []) ++ ((if uX kind then Xn.bytes x else []) ++
    (if uW kind then UInt8.ofNat puts.length :: (puts.flatMap Pt.bytes ++ UInt8.ofNat takes.length :: takes.flatMap Rf.bytes) else []))), false))) = (name, ((if uM kind then be 8 n.toNat else []) ++ ((if uX kind then Xn.bytes x else []) ++
    (if uW kind then UInt8.ofNat puts.length :: (puts.flatMap Pt.bytes ++ UInt8.ofNat takes.length :: takes.flatMap Rf.bytes) else [])), false)) := by
    cases hu : uN kind with
    | true =>
      rw [hu] at h1; have hq1 : name.size ≤ 40 := by have hq := h1; simp only [if_true] at hq; unfold qn at hq; simp only [Bool.and_eq_true, decide_eq_true_eq] at hq; exact hq.1.2
      rw [if_pos rfl, if_pos rfl, sT_put name (by omega)]
    | false =>
      rw [hu] at h1; have hz : name.size = 0 := by simpa using h1
      rw [if_neg (by simp), if_neg (by simp), size0 hz]; rfl
  rw [s1]; dsimp only
  have s2 : (if uM kind = true then nmR 8 ((if uM kind then be 8 n.toNat else []) ++ ((if uX kind then Xn.bytes x else []) ++
    (if uW kind then UInt8.ofNat puts.length :: (puts.flatMap Pt.bytes ++ UInt8.ofNat takes.length :: takes.flatMap Rf.bytes) else [])), false) else (0, ((if uM kind then be 8 n.toNat else []) ++ ((if uX kind then Xn.bytes x else []) ++
    (if uW kind then UInt8.ofNat puts.length :: (puts.flatMap Pt.bytes ++ UInt8.ofNat takes.length :: takes.flatMap Rf.bytes) else [])), false))) = (n.toNat, ((if uX kind then Xn.bytes x else []) ++
    (if uW kind then UInt8.ofNat puts.length :: (puts.flatMap Pt.bytes ++ UInt8.ofNat takes.length :: takes.flatMap Rf.bytes) else []), false)) := by
    cases hu : uM kind with
    | true => rw [if_pos rfl, if_pos rfl, nm_put 8 n n0 n1]
    | false =>
      rw [hu] at h2; have hz : n = 0 := by simpa using h2
      rw [if_neg (by simp), if_neg (by simp), hz]; rfl
  rw [s2]; dsimp only; rw [Int.toNat_of_nonneg n0]
  have s3 : (if uX kind = true then rd ((if uX kind then Xn.bytes x else []) ++
    (if uW kind then UInt8.ofNat puts.length :: (puts.flatMap Pt.bytes ++ UInt8.ofNat takes.length :: takes.flatMap Rf.bytes) else []), false) else (Xn.zero, ((if uX kind then Xn.bytes x else []) ++
    (if uW kind then UInt8.ofNat puts.length :: (puts.flatMap Pt.bytes ++ UInt8.ofNat takes.length :: takes.flatMap Rf.bytes) else []), false))) = (x, ((if uW kind then UInt8.ofNat puts.length :: (puts.flatMap Pt.bytes ++ UInt8.ofNat takes.length :: takes.flatMap Rf.bytes) else []), false)) := by
    cases hu : uX kind with
    | true =>
      rw [hu] at h3; rw [if_pos rfl, if_pos rfl, hrd x (by simpa using h3) hw.x0 hw.x1]
    | false =>
      rw [hu] at h3; rw [if_neg (by simp)] at h3; rw [if_neg (by simp), if_neg (by simp), xzero_of (x := x) h3]; rfl
  rw [s3]; dsimp only
  have s4 : (if uW kind = true then rdW M ((if uW kind then UInt8.ofNat puts.length :: (puts.flatMap Pt.bytes ++ UInt8.ofNat takes.length :: takes.flatMap Rf.bytes) else []), false) else (([], []), ((if uW kind then UInt8.ofNat puts.length :: (puts.flatMap Pt.bytes ++ UInt8.ofNat takes.length :: takes.flatMap Rf.bytes) else []), false))) = ((puts, takes), (([], false) : RS)) := by
    cases hu : uW kind with
    | true =>
      rw [if_pos rfl, if_pos rfl]; exact rdW_put M puts takes (kind == 3) h5 h6 h7 h8 hw.p hw.t (fun p hp => by rcases hL p hp with h | h; exact h; rw [hu] at h; exact absurd h (by simp))
    | false =>
      rw [hu] at h4; have h4 : puts = [] ∧ takes = [] := by simpa using h4
      rw [if_neg (by simp), if_neg (by simp), h4.1, h4.2]
  rw [s4]
theorem egP_put (e : En) (hw : e.Wf) (h : e.okB = true) : egP e.bytes = (e, ([], false)) := eg_put e hw h rdX rdX_put e.bytes rfl
theorem egD_put (e : En) (hw : e.Wf) (h : e.okB = true) : egD e.bytes = e := congrArg Prod.fst (eg_put e hw h dgX dgX_put e.bytes rfl)
theorem en_inj {e f : En} (we : e.Wf) (wf : f.Wf) (ce : e.chk = 0) (cf : f.chk = 0) (h : e.bytes = f.bytes) : e = f := by
  have e1 := egD_put e we (en_ok.1 ce); have e2 := egD_put f wf (en_ok.1 cf); rw [← e1, ← e2, h]
/-- What Get tells of a text. -/
def EnGot (b : List UInt8) (o : Option En) : Prop := match o with | some e => e.Wf ∧ e.chk = 0 ∧ e.bytes = b | none => ∀ e : En, e.Wf → e.chk = 0 → e.bytes ≠ b
theorem enGot_one {b : List UInt8} {o o' : Option En} (h : EnGot b o) (h' : EnGot b o') : o = o' := by
  cases o with
  | none => cases o' with
    | none => rfl
    | some q => exact absurd h'.2.2 (h q h'.1 h'.2.1)
  | some p => cases o' with
    | none => exact absurd h.2.2 (h' p h.1 h.2.1)
    | some q => rw [en_inj h.1 h'.1 h.2.1 h'.2.1 (h.2.2.trans h'.2.2.symm)]
theorem gtA_all {α : Type} {one : RS → α × RS} {Q : α → Prop} (h : ∀ r, Q (one r).1) : ∀ (n : Nat) (r : RS), ∀ x ∈ (gtA one n r).1, Q x
  | 0, r, x, hx => by unfold gtA at hx; simp at hx
  | n + 1, r, x, hx => by
    unfold gtA at hx; split at hx
    · simp at hx
    · rcases List.mem_cons.1 hx with rfl | hx
      · exact h r
      · exact gtA_all h n _ x hx
theorem nm_int (w : Nat) (r : RS) : 0 ≤ ((nmR w r).1 : Int) ∧ ((nmR w r).1 : Int) < ((256 ^ w : Nat) : Int) := by
  have := nmR_lt w r; exact ⟨by omega, by omega⟩
theorem rdPt_wf (N : Nat) (r : RS) : 0 ≤ (rdPt N r).1.id ∧ (rdPt N r).1.id < 18446744073709551616 ∧ (rdPt N r).1.pr.app.Wf := by
  unfold rdPt; exact ⟨(nm_int 8 _).1, (nm_int 8 _).2, prV_wf _⟩
theorem rdRf_wf (r : RS) : 0 ≤ (rdRf r).1.id ∧ (rdRf r).1.id < 18446744073709551616 := by
  unfold rdRf; exact nm_int 8 _
theorem rdX_wf (r : RS) : 0 ≤ (rdX r).1.1 ∧ (rdX r).1.1 < 4294967296 := by
  unfold rdX; exact nm_int 4 _
theorem rdW_wf (N : Nat) (r : RS) : (∀ p ∈ (rdW N r).1.1, 0 ≤ p.id ∧ p.id < 18446744073709551616 ∧ p.pr.app.Wf) ∧ ∀ x ∈ (rdW N r).1.2, 0 ≤ x.id ∧ x.id < 18446744073709551616 := by
  unfold rdW; exact ⟨gtA_all (rdPt_wf N) _ _, gtA_all rdRf_wf _ _⟩
theorem egP_wf (b : List UInt8) : (egP b).1.Wf := by
  unfold egP; dsimp only; refine ⟨(nm_int 1 _).1, (nm_int 1 _).2, ?_, ?_, ?_, ?_, ?_, ?_⟩
  · dsimp only; split; exact (nm_int 8 _).1; exact Int.le_refl _
  · dsimp only; split; exact (nm_int 8 _).2; exact (show (0 : Int) < 18446744073709551616 by omega)
  · dsimp only; split; exact (rdX_wf _).1; exact Int.le_refl _
  · dsimp only; split; exact (rdX_wf _).2; exact (show (0 : Int) < 4294967296 by omega)
  · dsimp only; split; exact (rdW_wf _ _).1; simp
  · dsimp only; split; exact (rdW_wf _ _).2; simp
theorem dgX_wf (r : RS) : 0 ≤ (dgX r).1.1 ∧ (dgX r).1.1 < 4294967296 := by
  unfold dgX; dsimp only; split
  · exact rdX_wf _
  · exact ⟨Int.le_refl _, (show (0 : Int) < 4294967296 by omega)⟩
theorem egD_wf (b : List UInt8) : (egD b).Wf := by
  unfold egD; dsimp only; refine ⟨(nm_int 1 _).1, (nm_int 1 _).2, ?_, ?_, ?_, ?_, ?_, ?_⟩
  · dsimp only; split; exact (nm_int 8 _).1; exact Int.le_refl _
  · dsimp only; split; exact (nm_int 8 _).2; exact (show (0 : Int) < 18446744073709551616 by omega)
  · dsimp only; split; exact (dgX_wf _).1; exact Int.le_refl _
  · dsimp only; split; exact (dgX_wf _).2; exact (show (0 : Int) < 4294967296 by omega)
  · dsimp only; split; exact (rdW_wf _ _).1; simp
  · dsimp only; split; exact (rdW_wf _ _).2; simp
def egO (b : List UInt8) : Option En := if (egD b).chk = 0 ∧ (egD b).bytes = b then some (egD b) else none
theorem egO_got (b : List UInt8) : EnGot b (egO b) := by
  unfold egO; split
  · rename_i h; exact ⟨egD_wf b, h.1, h.2⟩
  · rename_i h; intro p hp cp e; have e1 := egD_put p hp (en_ok.1 cp); rw [e] at e1; rw [e1] at h; exact h ⟨cp, e⟩
theorem egO_P (b : List UInt8) : egO b = if (egP b).2.2 = false ∧ (egP b).1.chk = 0 ∧ (egP b).1.bytes = b then some (egP b).1 else none := by
  refine enGot_one (egO_got b) ?_; split
  · rename_i h; exact ⟨egP_wf b, h.2.1, h.2.2⟩
  · rename_i h; intro p hp cp e; have e1 := egP_put p hp (en_ok.1 cp); rw [e] at e1; rw [e1] at h; exact h ⟨rfl, cp, e⟩
theorem egO_bytes {e : En} (hw : e.Wf) (h : e.chk = 0) : egO e.bytes = some e := enGot_one (egO_got _) (show EnGot e.bytes (some e) from ⟨hw, h, rfl⟩)
/-- What Get tells, in one form. -/
def enE (o : Option En) : Int := match o with | some _ => 0 | none => 130
def enV (o : Option En) : En := match o with | some e => e | none => En.zero
theorem flat_le {α : Type} (f : α → List UInt8) (k : Nat) : ∀ L : List α, (∀ x ∈ L, (f x).length ≤ k) → (L.flatMap f).length ≤ L.length * k
  | [], _ => by simp
  | x :: L, h => by
    have h1 := h x (by simp); have h2 := flat_le f k L (fun y hy => h y (by simp [hy])); rw [List.flatMap_cons, List.length_append, List.length_cons, Nat.add_mul]; omega
theorem qn_le {s : ByteArray} (h : qn s = true) : s.size ≤ 40 := by unfold qn at h; simp only [Bool.and_eq_true, decide_eq_true_eq] at h; exact h.1.2
theorem sT_len (s : ByteArray) : (sT s).length = s.size + 1 := by unfold sT; rw [List.length_cons, ba_len]
theorem pt_len {p : Pt} {num : Bool} (h : Pt.okB num p = true) : p.bytes.length ≤ 12400 := by
  unfold Pt.okB Pr.smallB at h; simp only [Bool.and_eq_true, decide_eq_true_eq] at h; have hq := qn_le h.1.1.1.1; unfold Pt.bytes; simp only [List.length_append, be_len, sT_len, ba_len]; omega
theorem rf_len {r : Rf} (h : Rf.okB r = true) : r.bytes.length ≤ 60 := by
  unfold Rf.okB at h; simp only [Bool.and_eq_true] at h; have hq := qn_le h.1; unfold Rf.bytes; simp only [List.length_append, be_len, sT_len]; omega
theorem en_len {e : En} (h : e.chk = 0) : e.bytes.length ≤ 1250000 := by
  have h := en_ok.1 h; unfold En.okB at h; simp only [Bool.and_eq_true, Bool.or_eq_true, decide_eq_true_eq, List.all_eq_true] at h; obtain ⟨⟨⟨⟨⟨⟨⟨⟨-, h1⟩, h2⟩, h3⟩, h4⟩, h5⟩, h6⟩, h7⟩, h8⟩ := h; have p1 := flat_le Pt.bytes 12400 e.puts (fun p hp => pt_len (h7 p hp)); have p2 := flat_le Rf.bytes 60 e.takes (fun p hp => rf_len (h8 p hp))
  have a1 : (if uN e.kind then sT e.name else []).length ≤ 41 := by
    cases hu : uN e.kind with
    | true => rw [hu] at h1; have := qn_le h1; rw [if_pos rfl, sT_len]; omega
    | false => simp
  have a2 : (if uM e.kind then be 8 e.n.toNat else []).length ≤ 8 := by split; rw [be_len]; omega; simp
  have a3 : (if uX e.kind then Xn.bytes e.x else []).length ≤ 200 := by
    cases hu : uX e.kind with
    | true =>
      rw [hu, if_pos rfl] at h3; unfold Xn.okB at h3; simp only [Bool.and_eq_true, decide_eq_true_eq] at h3; rw [if_pos rfl, xbytes_len]; omega
    | false => simp
  have a4 : (if uW e.kind then UInt8.ofNat e.puts.length :: (e.puts.flatMap Pt.bytes ++ UInt8.ofNat e.takes.length :: e.takes.flatMap Rf.bytes) else []).length ≤ 1246010 := by
    split
    · simp only [List.length_append, List.length_cons]; omega
    · simp
  unfold En.bytes; simp only [List.length_append, List.length_cons]; omega
end Go.Proofs.YtlonokcaddpniaaGreatDoor
namespace Go.Proofs.YtlonokcaddpniaaGreatDoor
open Go.RowKit
/-- A put, with the headers of its value's slices. -/
structure PtT where
  q : ByteArray
  id : Int
  pr : PT
  body : ByteArray
def PtT.p (t : PtT) : Pt := ⟨t.q, t.id, t.pr.p, t.body⟩
def ptEnc (t : PtT) : List Value := [.string t.q, .int .u64 t.id, .string t.pr.key, .bool t.pr.dur, .bool t.pr.red, .string t.pr.mid, .int .u8 t.pr.app.k, .int .u64 t.pr.app.n, .string t.pr.app.s, t.pr.app.kv, t.pr.app.lv, .string t.body]
def PtT.arg (t : PtT) : Value := .agg #[.string t.q, .int .u64 t.id, .string t.pr.key, .bool t.pr.dur, .bool t.pr.red, .string t.pr.mid, .int .u8 t.pr.app.k, .int .u64 t.pr.app.n, .string t.pr.app.s, t.pr.app.kv, t.pr.app.lv, .string t.body]
theorem PtT.arg_mk (q key mid body : ByteArray) (id : Int) (dur red : Bool) (k n : Int) (s : ByteArray) (kv lv : Value) (ks : List ByteArray) (l : List VT) : (PtT.mk q id (PT.mk key dur red mid (VT.mk k n s kv lv ks l)) body).arg = .agg #[.string q, .int .u64 id, .string key, .bool dur, .bool red, .string mid, .int .u8 k, .int .u64 n, .string s, kv, lv, .string body] := rfl
def rfEnc (r : Rf) : List Value := [.string r.q, .int .u64 r.id]
theorem ptEnc_len (t : PtT) : (ptEnc t).length = 12 := rfl
theorem rfEnc_len (t : Rf) : (rfEnc t).length = 2 := rfl
theorem rfEnc_one (t : Rf) : ∀ u ∈ rfEnc t, u.oneCell' = true := by simp [rfEnc, Value.oneCell']
/-- An entry, with the headers of its slices. -/
structure EnT where
  kind : Int
  name : ByteArray
  n : Int
  x : Xn
  pv : Value
  tv : Value
  puts : List PtT
  takes : List Rf
def EnT.e (t : EnT) : En := ⟨t.kind, t.name, t.n, t.x, t.puts.map PtT.p, t.takes⟩
def EnT.arg (t : EnT) : Value := .agg #[.int .u8 t.kind, .string t.name, .int .u64 t.n, .int .u32 t.x.1, .string t.x.2.1, .string t.x.2.2, t.pv, t.tv]
theorem EnT.arg_mk (kind n : Int) (name : ByteArray) (xf : Int) (xg xb : ByteArray) (pv tv : Value) (puts : List PtT) (takes : List Rf) : (EnT.mk kind name n (xf, xg, xb) pv tv puts takes).arg = .agg #[.int .u8 kind, .string name, .int .u64 n, .int .u32 xf, .string xg, .string xb, pv, tv] := rfl
/-- An entry that lies in memory, its slices and all in them in blocks of P. -/
structure EnRd (P : Nat → Prop) (w : World) (x : EnT) : Prop where
  p : Slc ptEnc 12 w x.pv x.puts
  pP : ∀ k, x.pv.ownBlock = some k → x.puts ≠ [] → P k
  r : ∀ y ∈ x.puts, Rd P w y.pr.app
  s : Slc rfEnc 2 w x.tv x.takes
  sP : ∀ k, x.tv.ownBlock = some k → x.takes ≠ [] → P k
  wf : x.e.Wf
theorem EnRd.pure {P : Nat → Prop} {w w' : World} {t : EnT} (h : EnRd P w t) (hB : Below w.heap.size w w') : EnRd P w' t := ⟨h.p.pure hB, h.pP, fun x hx => (h.r x hx).pure hB, h.s.pure hB, h.sP, h.wf⟩
theorem EnRd.weaken {P Q : Nat → Prop} {w : World} {t : EnT} (h : EnRd P w t) (hq : ∀ k, P k → Q k) : EnRd Q w t := ⟨h.p, fun k e n => hq k (h.pP k e n), fun x hx => (h.r x hx).weaken (fun k _ hk => hq k hk), h.s, fun k e n => hq k (h.sP k e n), h.wf⟩
theorem EnRd.open {P : Nat → Prop} {w : World} {t : EnT} (h : EnRd P w t) : ∃ (kind : Int) (name : ByteArray) (n xf : Int) (xg xb : ByteArray) (pa : Option Addr) (pc : Nat) (ta : Option Addr) (tc : Nat) (puts : List PtT) (takes : List Rf),
    t = (EnT.mk kind name n (xf, xg, xb) (.slice pa puts.length pc) (.slice ta takes.length tc) puts takes) ∧ puts.length ≤ maxLen ∧ takes.length ≤ maxLen := by
  obtain ⟨kind, name, n, ⟨xf, xg, xb⟩, pv, tv, puts, takes⟩ := t; obtain ⟨pa, pc, rfl, h1⟩ : ∃ a c, pv = .slice a puts.length c ∧ puts.length ≤ maxLen := h.p.len
  obtain ⟨ta, tc, rfl, h2⟩ : ∃ a c, tv = .slice a takes.length c ∧ takes.length ≤ maxLen := h.s.len
  exact ⟨kind, name, n, xf, xg, xb, pa, pc, ta, tc, puts, takes, rfl, h1, h2⟩
/-- A put of a slice, and its cells. -/
theorem pt_elem {P : Nat → Prop} {w : World} {g off n cap : Nat} {L : List PtT} (h : Slc ptEnc 12 w (.slice (some ⟨g, off, none⟩) n cap) L) {i : Nat} (hi : i < L.length) (hr : Rd P w L[i].pr.app) :
    ∃ (q : ByteArray) (id : Int) (key : ByteArray) (dur red : Bool) (mid : ByteArray) (uk un : Int) (us : ByteArray) (uka : Option Addr) (ukc : Nat) (ula : Option Addr) (ulc : Nat) (uks : List ByteArray) (ul : List VT) (body : ByteArray),
    L[i] = (PtT.mk q id (PT.mk key dur red mid (VT.mk uk un us (.slice uka uks.length ukc) (.slice ula ul.length ulc) uks ul)) body) ∧ w.cell? ⟨g, off + i * 12, none⟩ = some (.string q) ∧ w.cell? ⟨g, off + i * 12 + 1, none⟩ = some (.int .u64 id) ∧ w.cell? ⟨g, off + i * 12 + 2, none⟩ = some (.string key) ∧ w.cell? ⟨g, off + i * 12 + 3, none⟩ = some (.bool dur) ∧ w.cell? ⟨g, off + i * 12 + 4, none⟩ = some (.bool red) ∧ w.cell? ⟨g, off + i * 12 + 5, none⟩ = some (.string mid) ∧ w.cell? ⟨g, off + i * 12 + 6, none⟩ = some (.int .u8 uk) ∧ w.cell? ⟨g, off + i * 12 + 7, none⟩ = some (.int .u64 un) ∧ w.cell? ⟨g, off + i * 12 + 8, none⟩ = some (.string us) ∧ w.cell? ⟨g, off + i * 12 + 9, none⟩ = some (.slice uka uks.length ukc) ∧ w.cell? ⟨g, off + i * 12 + 10, none⟩ = some (.slice ula ul.length ulc) ∧ w.cell? ⟨g, off + i * 12 + 11, none⟩ = some (.string body) := by
  have hc := fun j u (hu : (ptEnc L[i])[j]? = some u) => h.get i hi j u hu
  rcases hx : L[i] with ⟨q, id, ⟨key, dur, red, mid, app⟩, body⟩; rw [hx] at hc hr; have hr : Rd P w app := hr; obtain ⟨uk, un, us, uka, ukc, ula, ulc, uks, ul, rfl, -⟩ := hr.open; exact ⟨q, id, key, dur, red, mid, uk, un, us, uka, ukc, ula, ulc, uks, ul, body, rfl, hc 0 _ rfl, hc 1 _ rfl, hc 2 _ rfl, hc 3 _ rfl, hc 4 _ rfl, hc 5 _ rfl, hc 6 _ rfl, hc 7 _ rfl, hc 8 _ rfl, hc 9 _ rfl, hc 10 _ rfl, hc 11 _ rfl⟩
theorem rf_elem {w : World} {g off n cap : Nat} {L : List Rf} (h : Slc rfEnc 2 w (.slice (some ⟨g, off, none⟩) n cap) L) {i : Nat} (hi : i < L.length) :
    ∃ (q : ByteArray) (id : Int), L[i] = ⟨q, id⟩ ∧ w.cell? ⟨g, off + i * 2, none⟩ = some (.string q) ∧ w.cell? ⟨g, off + i * 2 + 1, none⟩ = some (.int .u64 id) := by
  have hc := fun j u (hu : (rfEnc L[i])[j]? = some u) => h.get i hi j u hu
  rcases hx : L[i] with ⟨q, id⟩; rw [hx] at hc; exact ⟨q, id, rfl, hc 0 _ rfl, hc 1 _ rfl⟩
theorem us_lt (k : Int) : us k < 16 := by
  unfold us; split; omega; split; omega; split; omega; split; omega; split; omega; split; omega; omega
theorem and_us (u : Nat) (hu : u < 16) : (bits .and .i64 (u : Int) 1 != 0) = (u % 2 == 1) ∧ (bits .and .i64 (u : Int) 2 != 0) = (u / 2 % 2 == 1) ∧ (bits .and .i64 (u : Int) 4 != 0) = (u / 4 % 2 == 1) ∧ (bits .and .i64 (u : Int) 8 != 0) = (u / 8 % 2 == 1) := by
  match u, hu with
  | 0, _ => exact ⟨rfl, rfl, rfl, rfl⟩
  | 1, _ => exact ⟨rfl, rfl, rfl, rfl⟩
  | 2, _ => exact ⟨rfl, rfl, rfl, rfl⟩
  | 3, _ => exact ⟨rfl, rfl, rfl, rfl⟩
  | 4, _ => exact ⟨rfl, rfl, rfl, rfl⟩
  | 5, _ => exact ⟨rfl, rfl, rfl, rfl⟩
  | 6, _ => exact ⟨rfl, rfl, rfl, rfl⟩
  | 7, _ => exact ⟨rfl, rfl, rfl, rfl⟩
  | 8, _ => exact ⟨rfl, rfl, rfl, rfl⟩
  | 9, _ => exact ⟨rfl, rfl, rfl, rfl⟩
  | 10, _ => exact ⟨rfl, rfl, rfl, rfl⟩
  | 11, _ => exact ⟨rfl, rfl, rfl, rfl⟩
  | 12, _ => exact ⟨rfl, rfl, rfl, rfl⟩
  | 13, _ => exact ⟨rfl, rfl, rfl, rfl⟩
  | 14, _ => exact ⟨rfl, rfl, rfl, rfl⟩
  | 15, _ => exact ⟨rfl, rfl, rfl, rfl⟩
  | u + 16, h => omega
theorem eq_of_ne {x : Int} {b : Bool} (h : (x != 0) = b) : (x == 0) = !b := by rw [← h]; unfold bne; rw [Bool.not_not]
set_option maxRecDepth 100000 in
set_option maxHeartbeats 3200000 in
theorem uses_any (w : World) (k : Int) : Calls Tryz.prog 48 #[.int .u8 k] w fun e w' => e = .returned (.int .i64 (us k)) ∧ w = w' := by
  by_cases h1 : k = 1
  · subst h1; go_enter Tryz.func48, Tryz.ntmps48; go_wp2; go_ret; exact ⟨rfl, rfl⟩
  by_cases h2 : k = 2
  · subst h2; go_enter Tryz.func48, Tryz.ntmps48; go_wp2; go_ret; exact ⟨rfl, rfl⟩
  by_cases h3 : k = 3
  · subst h3; go_enter Tryz.func48, Tryz.ntmps48; go_wp2; go_ret; exact ⟨rfl, rfl⟩
  by_cases h4 : k = 4
  · subst h4; go_enter Tryz.func48, Tryz.ntmps48; go_wp2; go_ret; exact ⟨rfl, rfl⟩
  by_cases h5 : k = 5
  · subst h5; go_enter Tryz.func48, Tryz.ntmps48; go_wp2; go_ret; exact ⟨rfl, rfl⟩
  by_cases h6 : k = 6
  · subst h6; go_enter Tryz.func48, Tryz.ntmps48; go_wp2; go_ret; exact ⟨rfl, rfl⟩
  by_cases h7 : k = 7
  · subst h7; go_enter Tryz.func48, Tryz.ntmps48; go_wp2; go_ret; exact ⟨rfl, rfl⟩
  by_cases h8 : k = 8
  · subst h8; go_enter Tryz.func48, Tryz.ntmps48; go_wp2; go_ret; exact ⟨rfl, rfl⟩
  by_cases h9 : k = 9
  · subst h9; go_enter Tryz.func48, Tryz.ntmps48; go_wp2; go_ret; exact ⟨rfl, rfl⟩
  have e0 : us k = 0 := by unfold us; simp only [h1, h2, h3, h4, h5, h6, h7, h8, h9, if_false, or_self]
  have b1 : (k == 1) = false := beq_eq_false_iff_ne.2 h1; have d1 : decide (k = 1) = false := decide_eq_false h1; have b2 : (k == 2) = false := beq_eq_false_iff_ne.2 h2; have d2 : decide (k = 2) = false := decide_eq_false h2; have b3 : (k == 3) = false := beq_eq_false_iff_ne.2 h3; have d3 : decide (k = 3) = false := decide_eq_false h3; have b4 : (k == 4) = false := beq_eq_false_iff_ne.2 h4; have d4 : decide (k = 4) = false := decide_eq_false h4; have b5 : (k == 5) = false := beq_eq_false_iff_ne.2 h5; have d5 : decide (k = 5) = false := decide_eq_false h5; have b6 : (k == 6) = false := beq_eq_false_iff_ne.2 h6; have d6 : decide (k = 6) = false := decide_eq_false h6; have b7 : (k == 7) = false := beq_eq_false_iff_ne.2 h7; have d7 : decide (k = 7) = false := decide_eq_false h7; have b8 : (k == 8) = false := beq_eq_false_iff_ne.2 h8; have d8 : decide (k = 8) = false := decide_eq_false h8; have b9 : (k == 9) = false := beq_eq_false_iff_ne.2 h9; have d9 : decide (k = 9) = false := decide_eq_false h9; have e0h := Lib.hid e0; clear e0; go_enter Tryz.func48, Tryz.ntmps48; go_wp2; go_ret; exact ⟨by rw [e0h.out]; rfl, rfl⟩
theorem eid_any (w : World) (n : Int) : Calls Tryz.prog 50 #[.int .u64 n] w fun e w' => e = .returned (.bool (idOk n)) ∧ w = w' := by
  unfold idOk; by_cases h1 : 1 ≤ n
  · have d1 : decide (1 ≤ n) = true := decide_eq_true h1; obtain ⟨b, hb⟩ : ∃ b, decide (n ≤ 1099511627776) = b := ⟨_, rfl⟩
    rw [d1, hb]; clear h1; go_enter Tryz.func50, Tryz.ntmps50; go_wp2; go_ret; exact ⟨by simp, rfl⟩
  · have d1 : decide (1 ≤ n) = false := decide_eq_false h1; rw [d1]; clear h1; go_enter Tryz.func50, Tryz.ntmps50; go_wp2; go_ret; exact ⟨by simp, rfl⟩
def qc (c : UInt8) : Bool := decide (33 ≤ c.toNat) && decide (c.toNat ≤ 126)
theorem qn_all (s : ByteArray) : qn s = (decide (1 ≤ s.size) && decide (s.size ≤ 40) && s.data.toList.all qc) := rfl
theorem all_take_succ {L : List UInt8} {k : Nat} (hk : k < L.length) (h : (L.take k).all qc = true) (hq : qc L[k] = true) : (L.take (k + 1)).all qc = true := by
  rw [List.take_succ_eq_append_getElem hk, List.all_append, h]; simp [hq]
theorem all_not {L : List UInt8} {k : Nat} (hk : k < L.length) (hq : qc L[k] = false) : L.all qc = false := by
  rw [Bool.eq_false_iff]; intro h; rw [List.all_eq_true] at h; rw [h _ (List.getElem_mem hk)] at hq; exact absurd hq (by simp)
set_option maxRecDepth 100000 in
set_option maxHeartbeats 3200000 in
theorem qname_any (w : World) (s : ByteArray) : Calls Tryz.prog 49 #[.string s] w fun e w' => e = .returned (.bool (qn s)) ∧ Below w.heap.size w w' := by
  by_cases h0 : s.size = 0
  · obtain rfl : s = ⟨#[]⟩ := size0 h0; clear h0; go_enter Tryz.func49, Tryz.ntmps49; go_wp2; go_ret; exact ⟨rfl, Below.refl _ _⟩
  have g1 : ¬ s.toList = [] := fun e => h0 (by rw [← toList_len, e]; rfl)
  have g2 := empty_no (show 0 < s.size by omega); by_cases h1 : 40 < s.size
  · have d1 : decide ((40 : Int) < (s.size : Int)) = true := decide_eq_true (by omega); have d2 : (40 : Int) < (s.size : Int) := by omega
    have hq := Lib.hid (show qn s = false by rw [qn_all, decide_eq_false (show ¬ s.size ≤ 40 by omega)]; simp); clear h0 h1; go_enter Tryz.func49, Tryz.ntmps49; go_wp2; go_ret; exact ⟨by rw [hq.out]; rfl, Below.refl _ _⟩
  have d1 : decide ((40 : Int) < (s.size : Int)) = false := decide_eq_false (by omega); have d2 : ¬ (40 : Int) < (s.size : Int) := by omega
  have hq := Lib.hid (show qn s = s.data.toList.all qc by rw [qn_all, decide_eq_true (show 1 ≤ s.size by omega), decide_eq_true (show s.size ≤ 40 by omega)]; simp); have hl := Lib.hid (ba_len s); clear h0 h1; go_enter Tryz.func49, Tryz.ntmps49; go_wp2; go_loopw [13] (fun s13 wr => ∃ k : Nat, k ≤ s.size ∧ s13 = .int .i64 k ∧ Hid ((s.data.toList.take k).all qc = true) ∧ Below w.heap.size w wr) (fun s13 _ => s.size - (intOf s13).toNat)
  case atStart => exact ⟨0, by omega, rfl, Lib.hid (by simp), Below.refl _ _⟩
  case round =>
    obtain ⟨k, hk, rfl, hA, hB⟩ := hrel; by_cases hlt : k < s.size
    · have h1 : (k : Int) < (s.size : Int) := by omega
      have hkl : k < s.data.toList.length := by rw [hl.out]; exact hlt
      have hbt := Lib.hid (show s[k] = s.data.toList[k] by simp [ByteArray.getElem_eq_getElem_data]); by_cases c1 : s[k].toNat < 33
      · have d3 : decide ((s[k].toNat : Int) < 33) = true := decide_eq_true (by omega); have d4 : ((s[k].toNat : Int) < 33) := by omega
        have hno := Lib.hid (show s.data.toList.all qc = false from all_not hkl (by rw [← hbt.out]; unfold qc; simp; omega)); clear c1; go_wp2; go_ret; exact ⟨by rw [hq.out, hno.out]; simp; try rfl, hB⟩
      by_cases c2 : 126 < s[k].toNat
      · have d3 : decide ((s[k].toNat : Int) < 33) = false := decide_eq_false (by omega); have d4 : ¬ ((s[k].toNat : Int) < 33) := by omega
        have d5 : decide ((126 : Int) < (s[k].toNat : Int)) = true := decide_eq_true (by omega); have d6 : ((126 : Int) < (s[k].toNat : Int)) := by omega
        have hno := Lib.hid (show s.data.toList.all qc = false from all_not hkl (by rw [← hbt.out]; unfold qc; simp; omega)); clear c1 c2; go_wp2; go_ret; exact ⟨by rw [hq.out, hno.out]; simp; try rfl, hB⟩
      have d3 : decide ((s[k].toNat : Int) < 33) = false := decide_eq_false (by omega); have d4 : ¬ ((s[k].toNat : Int) < 33) := by omega
      have d5 : decide ((126 : Int) < (s[k].toNat : Int)) = false := decide_eq_false (by omega); have d6 : ¬ ((126 : Int) < (s[k].toNat : Int)) := by omega
      have hA2 := Lib.hid (all_take_succ hkl hA.out (by rw [← hbt.out]; unfold qc; simp; omega)); clear c1 c2; go_wp2; go_roundw
      case rel => exact ⟨k + 1, by omega, by go_num, hA2, hB⟩
      case measure => simp [intOf]; omega
    · obtain rfl : k = s.size := by omega
      have hA2 := Lib.hid (show s.data.toList.all qc = true by have h := hA.out; rwa [List.take_of_length_le (by rw [hl.out]; exact Nat.le_refl _)] at h); go_wp2; go_ret; exact ⟨by rw [hq.out, hA2.out]; rfl, hB⟩
set_option maxRecDepth 100000 in
set_option maxHeartbeats 3200000 in
theorem dqname_any (w : World) (s : ByteArray) (hm : (s.size : Int) < 4611686018427387904) : Calls Tryz.prog 58 #[.string s] w fun e w' => e = .returned (.bool (qn s)) ∧ Below w.heap.size w w' := by
  have hl := Lib.hid (ba_len s); have hq := Lib.hid (qn_all s); go_enter Tryz.func58, Tryz.ntmps58; go_wp2; go_loopw [3] (fun s3 wr => ∃ k : Nat, k ≤ s.size ∧ s3 = .int .i64 k ∧ Hid ((s.data.toList.take k).all qc = true) ∧ Below w.heap.size w wr) (fun s3 _ => s.size - (intOf s3).toNat)
  case atStart => exact ⟨0, by omega, rfl, Lib.hid (by simp), Below.refl _ _⟩
  case round =>
    obtain ⟨k, hk, rfl, hA, hB⟩ := hrel; by_cases hlt : k < s.size
    · have h1 : (k : Int) < (s.size : Int) := by omega
      have hkl : k < s.data.toList.length := by rw [hl.out]; exact hlt
      have hbt := Lib.hid (show s[k] = s.data.toList[k] by simp [ByteArray.getElem_eq_getElem_data]); by_cases c1 : s[k].toNat < 33
      · have d3 : decide ((s[k].toNat : Int) ≤ 32) = true := decide_eq_true (by omega); have d4 : ((s[k].toNat : Int) ≤ 32) := by omega
        have hno := Lib.hid (show s.data.toList.all qc = false from all_not hkl (by rw [← hbt.out]; unfold qc; simp; omega)); clear c1; go_wp2; go_ret; exact ⟨by rw [hq.out, hno.out]; simp; try rfl, hB⟩
      by_cases c2 : 126 < s[k].toNat
      · have d3 : decide ((s[k].toNat : Int) ≤ 32) = false := decide_eq_false (by omega); have d4 : ¬ ((s[k].toNat : Int) ≤ 32) := by omega
        have d5 : decide ((127 : Int) ≤ (s[k].toNat : Int)) = true := decide_eq_true (by omega); have d6 : ((127 : Int) ≤ (s[k].toNat : Int)) := by omega
        have hno := Lib.hid (show s.data.toList.all qc = false from all_not hkl (by rw [← hbt.out]; unfold qc; simp; omega)); clear c1 c2; go_wp2; go_ret; exact ⟨by rw [hq.out, hno.out]; simp; try rfl, hB⟩
      have d3 : decide ((s[k].toNat : Int) ≤ 32) = false := decide_eq_false (by omega); have d4 : ¬ ((s[k].toNat : Int) ≤ 32) := by omega
      have d5 : decide ((127 : Int) ≤ (s[k].toNat : Int)) = false := decide_eq_false (by omega); have d6 : ¬ ((127 : Int) ≤ (s[k].toNat : Int)) := by omega
      have hA2 := Lib.hid (all_take_succ hkl hA.out (by rw [← hbt.out]; unfold qc; simp; omega)); clear c1 c2; go_wp2; go_roundw
      case rel => exact ⟨k + 1, by omega, by go_num, hA2, hB⟩
      case measure => simp [intOf]; omega
    · obtain rfl : k = s.size := by omega
      have hA2 := Lib.hid (show s.data.toList.all qc = true by have h := hA.out; rwa [List.take_of_length_le (by rw [hl.out]; exact Nat.le_refl _)] at h); clear hm; by_cases h0 : 1 ≤ s.size
      · have d1 : decide ((1 : Int) ≤ (s.size : Int)) = true := decide_eq_true (by omega); have d1n : decide (1 ≤ s.size) = true := decide_eq_true h0; by_cases h2 : s.size ≤ 40
        · have d2 : decide ((s.size : Int) ≤ 40) = true := decide_eq_true (by omega); have hqq := Lib.hid (show qn s = true by rw [hq.out, hA2.out, d1n, decide_eq_true h2]; rfl); clear h0 h2 d1n; go_wp2; go_ret; exact ⟨by rw [hqq.out]; rfl, hB⟩
        · have d2 : decide ((s.size : Int) ≤ 40) = false := decide_eq_false (by omega); have hqq := Lib.hid (show qn s = false by rw [hq.out, decide_eq_false h2]; simp); clear h0 h2 d1n; go_wp2; go_ret; exact ⟨by rw [hqq.out]; rfl, hB⟩
      · have d1 : decide ((1 : Int) ≤ (s.size : Int)) = false := decide_eq_false (by omega); have hqq := Lib.hid (show qn s = false by rw [hq.out, decide_eq_false h0]; simp); clear h0; go_wp2; go_ret; exact ⟨by rw [hqq.out]; rfl, hB⟩
structure EnOw (B : Nat) (w : World) (t : EnT) : Prop where
  p : Own B 35 12 ptEnc w t.pv t.puts
  r : ∀ x ∈ t.puts, Rd (fun i => B ≤ i ∧ t.pv.ownBlock ≠ some i) w x.pr.app
  s : Own B 37 2 rfEnc w t.tv t.takes
  d : ∀ b, t.pv.ownBlock = some b → t.tv.ownBlock ≠ some b
  wf : t.e.Wf
theorem EnOw.rd {B : Nat} {w : World} {t : EnT} (h : EnOw B w t) : EnRd (fun i => B ≤ i) w t :=
  ⟨h.p.slc ptEnc_len, fun k e _ => h.p.ge e, fun x hx => (h.r x hx).weaken (fun i _ hi => hi.1), h.s.slc rfEnc_len, fun k e _ => h.s.ge e, h.wf⟩
theorem EnOw.pure {B : Nat} {w w' : World} {t : EnT} (h : EnOw B w t) (hB : Below w.heap.size w w') : EnOw B w' t :=
  ⟨h.p.pure hB, fun x hx => (h.r x hx).pure hB, h.s.pure hB, h.d, h.wf⟩
theorem EnOw.upd {S : Nat → Prop} {B : Nat} {w w' : World} {t : EnT} (h : EnOw B w t) (hu : Upd S w w') (hS : ∀ k, B ≤ k → ¬ S k) : EnOw B w' t :=
  ⟨h.p.upd hu (fun k e => hS k (h.p.ge e)), fun x hx => (h.r x hx).upd hu (fun b hb => hS b hb.1), h.s.upd hu (fun k e => hS k (h.s.ge e)), h.d, h.wf⟩
theorem EnOw.base {B C : Nat} {w : World} {t : EnT} (h : EnOw B w t) (hC : C ≤ B) : EnOw C w t :=
  ⟨h.p.rebase (fun k e => Nat.le_trans hC (h.p.ge e)), fun x hx => (h.r x hx).weaken (fun i _ hi => ⟨Nat.le_trans hC hi.1, hi.2⟩), h.s.rebase (fun k e => Nat.le_trans hC (h.s.ge e)), h.d, h.wf⟩
theorem EnRd.upd {S : Nat → Prop} {P : Nat → Prop} {w w' : World} {t : EnT} (h : EnRd P w t) (hu : Upd S w w') (hS : ∀ k, P k → ¬ S k) : EnRd P w' t :=
  ⟨h.p.updL hu (fun hn b e => hS b (h.pP b e hn)), h.pP, fun x hx => (h.r x hx).upd hu hS, h.s.updL hu (fun hn b e => hS b (h.sP b e hn)), h.sP, h.wf⟩
end Go.Proofs.YtlonokcaddpniaaGreatDoor
