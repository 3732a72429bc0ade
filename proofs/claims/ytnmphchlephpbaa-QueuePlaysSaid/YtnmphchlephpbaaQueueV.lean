/- The law's does: a call on both queues: what surrounds the calls. Conditions: as for the pair. -/
import Derived.Test.YtnmphchlephpbaaQueueU
import Derived.Deep.RegionHeld3
namespace Go.Proofs.Ytnmphchlephpbaa
open Go.RowKit
variable {X : Nat → Prop} {w w' : World} {q p : Nat} {s t s' : QS}

abbrev XB (X : Nat → Prop) (B : Nat) (k : Nat) : Prop := X k ∨ k = B
theorem PairS.box (h : PairS X w q p s t) (o : Obj) : PairS (XB X w.heap.size) (w.alloc o) q p s t :=
  (h.more (fun k hk hl => hk.elim (fun h => h) (fun e => by omega))).pure ((Below.refl _ _).alloc (Nat.le_refl _) o)
theorem Kept.of_box {o : Obj} (h : Kept (XB X w.heap.size) (w.alloc o) w') : Kept X w w' :=
  (Upd.of_below (S := fun k => ¬ X k) ((Below.refl _ w).alloc (Nat.le_refl _) o)).trans h (fun i hi hl hx => hi (.inl hx))
theorem XB.lt (hX : ∀ k, X k → k < w.heap.size) (o : Obj) : ∀ k, XB X w.heap.size k → k < (w.alloc o).heap.size := fun k hk => by
  rw [heap_alloc_size]; rcases hk with h | h
  · have := hX k h; omega
  · omega
theorem Kept.lt {Y : Nat → Prop} (hY : ∀ k, Y k → k < w.heap.size) (h : Kept Y w w') : ∀ k, Y k → k < w'.heap.size := fun k hk => Nat.lt_of_lt_of_le (hY k hk) h.size
theorem Kept.blk {Y : Nat → Prop} {cs : List Value} {B : Nat} (h : Kept Y w w') (hY : Y B) (hb : Blk w B cs) : Blk w' B cs := hb.upd h (fun hn => hn hY)

structure QCallOk (x : QCall) : Prop where
  what : 0 ≤ x.what ∧ x.what ≤ 255
  a : u64ok x.a
  b : u64ok x.b
  c : u64ok x.c
  n : -9223372036854775808 ≤ x.n ∧ x.n ≤ 9223372036854775807
def callCells (x : QCall) : List Value := [.int .u8 x.what, .int .u64 x.a, .int .u64 x.b, .int .u64 x.c, .int .i64 x.n, .bool x.more]
abbrev callVal (x : QCall) : Value := .agg #[.int .u8 x.what, .int .u64 x.a, .int .u64 x.b, .int .u64 x.c, .int .i64 x.n, .bool x.more]

/-- What does leaves, where what it called left u. -/
def DoesPost (X : Nat → Prop) (w : World) (q p : Nat) (u : QS) (m : Bool) (e : Ending) (w' : World) : Prop :=
  e = .returned (.bool true) ∧ PairS X w' q p (if m = true then u.purged else u) (if m = true then u.purged else u) ∧ Kept X w w'

theorem done_no {o : Obj} (h : PairS (XB X w.heap.size) w' q p s s) (hk : Kept (XB X w.heap.size) (w.alloc o) w') : DoesPost X w q p s false (.returned (.bool true)) w' :=
  ⟨rfl, h.more (fun k hk _ => .inl hk), Kept.of_box hk⟩
theorem done_yes {o : Obj} {r1 r2 : Value} {w2 w3 w4 : World} (hk : Kept (XB X w.heap.size) (w.alloc o) w')
    (k2 : Kept (XB X w.heap.size) w' w2) (k3 : Kept (fun j => XB X w.heap.size j ∨ r1.ownBlock = some j) w2 w3) (h3 : PairS (fun j => (XB X w.heap.size j ∨ r1.ownBlock = some j) ∨ r2.ownBlock = some j) w3 q p s.purged s.purged) (hb : Below w3.heap.size w3 w4) : DoesPost X w q p s true (.returned (.bool true)) w4 :=
  ⟨rfl, (h3.more (fun k hk _ => .inl (.inl (.inl hk)))).pure hb, Kept.of_box (o := o) (((hk.trans k2 (fun i hi _ h => hi h)).trans k3 (fun i hi _ h => hi (.inl h))).trans (Below.kept (X := XB X w.heap.size) hb) (fun i hi _ => hi))⟩

/-- Behind the first call: what is kept, and the call's own cells. -/
theorem mid1 {cs : List Value} {T : TypeId} {w1 : World} (hX : ∀ k, X k → k < w.heap.size) (k1 : Kept (XB X w.heap.size) (w.alloc (.cells cs.toArray T)).drew w1) :
    (∀ k, XB X w.heap.size k → k < w1.heap.size) ∧ Blk w1 w.heap.size cs ∧ Kept (XB X w.heap.size) (w.alloc (.cells cs.toArray T)) w1 :=
  ⟨Kept.lt (w := (w.alloc (.cells cs.toArray T)).drew) (XB.lt hX (.cells cs.toArray T)) k1, Kept.blk (Y := XB X w.heap.size) k1 (Or.inr rfl) (Blk.new w cs T).drew, ⟨k1.os, k1.tape, k1.output, k1.size, k1.block⟩⟩
theorem mid1n {cs : List Value} {T : TypeId} {w1 : World} (hX : ∀ k, X k → k < w.heap.size) (k1 : Kept (XB X w.heap.size) (w.alloc (.cells cs.toArray T)) w1) :
    (∀ k, XB X w.heap.size k → k < w1.heap.size) ∧ Blk w1 w.heap.size cs ∧ Kept (XB X w.heap.size) (w.alloc (.cells cs.toArray T)) w1 :=
  ⟨Kept.lt (w := (w.alloc (.cells cs.toArray T))) (XB.lt hX (.cells cs.toArray T)) k1, Kept.blk (Y := XB X w.heap.size) k1 (Or.inr rfl) (Blk.new w cs T), k1⟩
theorem lt_more {Y : Nat → Prop} {w2 w3 : World} {r : Value} (l : ∀ k, Y k → k < w2.heap.size) (hs : w2.heap.size ≤ w3.heap.size) (hr : ∀ k, r.ownBlock = some k → k < w3.heap.size) : ∀ k, (Y k ∨ r.ownBlock = some k) → k < w3.heap.size :=
  fun k hk => hk.elim (fun h => Nat.lt_of_lt_of_le (l k h) hs) (hr k)
/-- Behind the next. -/
theorem mid2 {cs : List Value} {w0 w1 w2 : World} {B : Nat} (l1 : ∀ k, XB X B k → k < w1.heap.size) (b1 : Blk w1 B cs) (k1 : Kept (XB X B) w0 w1) (k2 : Kept (XB X B) w1 w2) :
    (∀ k, XB X B k → k < w2.heap.size) ∧ Blk w2 B cs ∧ Kept (XB X B) w0 w2 :=
  ⟨Kept.lt l1 k2, Kept.blk k2 (Or.inr rfl) b1, k1.trans k2 (fun i hi _ h => hi h)⟩
section
variable (h : PairS X w q p s t) (hX : ∀ k, X k → k < w.heap.size) (ho : QOk t) (hL : t.ids.length ≤ 1000000)
include h hX ho hL
theorem pr_free {id o : Int} : Calls Try.prog 42 #[.pointer (some ⟨p, 0, none⟩), .int .u64 id, .int .u64 o, .int .u64 0] w fun e w' => e = .returned (.int .i64 (t.free id o).1) ∧ PairS X w' q p s (t.free id o).2 ∧ Kept X w w' := by
  rw [free_same ho]; exact pr_hands h hX ho hL
theorem pr_passd {id f o : Int} (hz : o ≠ 0) : Calls Try.prog 42 #[.pointer (some ⟨p, 0, none⟩), .int .u64 id, .int .u64 f, .int .u64 o] w fun e w' => e = .returned (.int .i64 (t.pass id f o).1) ∧ PairS X w' q p s (t.pass id f o).2 ∧ Kept X w w' := by
  rw [pass_same ho _ _ _ hz]; exact pr_hands h hX ho hL
theorem pr_holdd {id o : Int} (hz : o ≠ 0) : Calls Try.prog 41 #[.pointer (some ⟨p, 0, none⟩), .int .u64 id, .int .u64 0, .int .u64 o] w fun e w' => e = .returned (.int .i64 (t.holds id o).1) ∧ PairS X w' q p s (t.holds id o).2 ∧ Kept X w w' := by
  rw [hold_same ho _ _ hz]; exact pr_pass h hX ho hL
theorem pr_dropd {id o : Int} : Calls Try.prog 43 #[.pointer (some ⟨p, 0, none⟩), .int .u64 id, .int .u64 o] w fun e w' => e = .returned (.int .i64 (t.dropped id o).1) ∧ PairS X w' q p s (t.dropped id o).2 ∧ Kept X w w' := by
  rw [← drop_same ho]; exact pr_drop h hX ho hL
end
theorem pq_hold0 {id : Int} (h : PairS X w q p s t) (hX : ∀ k, X k → k < w.heap.size) (hL : s.ids.length ≤ 1000000) (hi : u64ok id) :
    Calls Try.prog 23 #[.pointer (some ⟨q, 0, none⟩), .int .u64 id, .int .u64 0] w fun e w' => e = .returned (.int .i64 2) ∧ PairS X w' q p s t ∧ Kept X w w' := by
  have := pq_hold (o := 0) h hX hL hi (by omega)
  unfold QS.holds at this
  simpa using this
theorem pq_pass0 {id f : Int} (h : PairS X w q p s t) (hX : ∀ k, X k → k < w.heap.size) (hL : s.ids.length ≤ 1000000) (hi : u64ok id) :
    Calls Try.prog 24 #[.pointer (some ⟨q, 0, none⟩), .int .u64 id, .int .u64 f, .int .u64 0] w fun e w' => e = .returned (.int .i64 2) ∧ PairS X w' q p s t ∧ Kept X w w' := by
  have := pq_pass (o := 0) (f := f) h hX hL hi (by omega)
  unfold QS.pass at this
  simpa using this
end Go.Proofs.Ytnmphchlephpbaa
