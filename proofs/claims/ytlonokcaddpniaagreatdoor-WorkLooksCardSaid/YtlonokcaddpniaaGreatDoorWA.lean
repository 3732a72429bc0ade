/- work.own. Conditions: Put's and Get's contracts. Written by gen_wkD.py. (Texts joined.) -/
import Derived.Test.YtlonokcaddpniaaGreatDoorKA
import Derived.WideKeyEntry
import Derived.Test.YtlonokcaddpniaaGreatDoorEA
import Derived.DeepKeys4
import Derived.Test.YtlonokcaddpniaaGreatDoorProg
set_option linter.unusedSimpArgs false
set_option linter.unusedVariables false
namespace Go.Proofs.YtlonokcaddpniaaGreatDoor
open Go.RowKit Go.ChangeMaps Go.MapKept
section
variable {κ ε : Type} {P : Program} {t k e : TypeId} {kv : κ → Value} {kl : κ → Lit} {ok : κ → Prop} {ev : ε → Value} {dec : Value → Option ε} {z : ε} {w : World} {b cnt : Nat} {h : κ → Option ε}
theorem MapG.drew (M : MapG P k kl ok dec w b h cnt) : MapG P k kl ok dec w.drew b h cnt := M
theorem MapG.look_run (T : MapT P t k e kv kl ok ev dec z) (M : MapG P k kl ok dec w b h cnt) {u : κ} (hu : ok u) : (Instr.lookup t (.map (some b)) (kv u) false).run P w = .ok (ev ((h u).getD z)) w := by
  obtain ⟨D, h1, h2, h3⟩ := M; obtain ⟨v, ps, hrun, hv⟩ := h1.lookup T.K T.ht (T.hz w) (zd := .held z) (zp := []) (by simp [decR, T.de]) (T.hkey u hu); rw [hrun, MapG.elem T (h3 u hu) hv]
variable [DecidableEq κ]
theorem MapG.put_run (T : MapT P t k e kv kl ok ev dec z) (M : MapG P k kl ok dec w b h cnt) (hn : cnt < maxLen) {u : κ} (hu : ok u) (y : ε) :
    ∃ w', (Instr.mapUpdate t (.map (some b)) (kv u) (ev y)).run P w = .ok () w' ∧ MapG P k kl ok dec w' b (fun i => if i = u then some y else h i) (if (h u).isSome then cnt else cnt + 1) ∧ w.grownBy w' (some b) := by
  obtain ⟨D, h1, h2, h3⟩ := M; obtain ⟨w', hrun, g1, g2⟩ := h1.update T.K T.ht hn (val := ev y) (T.hkey u hu) (d := .held y) (ps := []) (by simp [decR, T.de]); have hsz := Maps.size_put (k := kl u) (h1.tidy T.K) (.held y); refine ⟨w', hrun, ⟨_, ?_, ?_, MapG.put_law T h1 h3 hu y⟩, g2⟩
  · have g3 := tight g1; rw [hsz, (h3 u hu).1, h2] at g3; exact g3
  · rw [hsz, (h3 u hu).1, h2]
end
end Go.Proofs.YtlonokcaddpniaaGreatDoor
namespace Go.Proofs.YtlonokcaddpniaaGreatDoor
open Go.RowKit Go.ChangeMaps Go.MapKept
section
variable {κ ε : Type} {P : Program} {t k e : TypeId} {kv : κ → Value} {kl : κ → Lit} {ok : κ → Prop} {ev : ε → Value} {dec : Value → Option ε} {z : ε} {w : World} {b cnt : Nat} {h : κ → Option ε}
theorem entry_runs (K : WideMaps.KeyLaw P k) (ht : P.underlying t = some (.map k e)) {zv : Value} (hz : ∀ u : World, (zeroValue e).run P u = .ok zv u) {es : Array MapEntry} {clock : Nat} (hb : w.heap[b]? = some (.map es clock))
    (hks : ∀ x ∈ es.toList, ∃ l, keyOf P k x.key = some l) {key : Value} {kl : Lit} (hkey : keyOf P k key = some kl) :
    ∃ (v0 : Value) (st : Nat) (w1 : World), (Instr.mapEntry t (.map (some b)) key).run P w = .ok (.tuple #[v0, goInt st]) w1 ∧ (Instr.mapUpdate t (.map (some b)) key v0).run P w = .ok () w1 ∧ (Instr.lookup t (.map (some b)) key false).run P w = .ok v0 w := by
  rcases K.find w hkey es.toList hks with ⟨h1, h2⟩ | ⟨j, e0, h1, h2, h3⟩
  · refine ⟨zv, clock, setBlock w b (.map (es.push ⟨key, zv, clock⟩) (clock + 1)), ?_, ?_, ?_⟩
    · simp [Instr.mapEntry, run_underlying ht, MapKept.run_getObj_map hb, K.check w false hkey, h1, hz, MapKept.run_setObj_map _ hb, Result.andThen, setBlock]
    · simp [Instr.mapUpdate, run_underlying ht, MapKept.run_getObj_map hb, K.check w false hkey, h1, MapKept.run_setObj_map _ hb, Result.andThen, setBlock]
    · simp [Instr.lookup, run_underlying ht, MapKept.run_getObj_map hb, K.check w _ hkey, h1, hz, Result.andThen]
  · have hj : es[j]? = some e0 := by simpa using h2
    have e1 : es.modify j (fun e' => { e' with key := key, val := e0.val }) = es.modify j (fun e' => { e' with key := key }) := by
      apply Array.ext'; rw [Array.toList_modify, Array.toList_modify, modify_eq_set _ _ _ _ h2, modify_eq_set _ _ _ _ h2]
    refine ⟨e0.val, e0.born, setBlock w b (.map (es.modify j (fun e' => { e' with key := key })) clock), ?_, ?_, ?_⟩
    · simp [Instr.mapEntry, run_underlying ht, MapKept.run_getObj_map hb, K.check w false hkey, h1, hj, h3, K.stays w hkey, MapKept.run_setObj_map _ hb, Result.andThen, setBlock]
    · simp [Instr.mapUpdate, run_underlying ht, MapKept.run_getObj_map hb, K.check w false hkey, h1, hj, h3, K.stays w hkey, MapKept.run_setObj_map _ hb, Result.andThen, setBlock, e1]
    · simp [Instr.lookup, run_underlying ht, MapKept.run_getObj_map hb, K.check w _ hkey, h1, Result.andThen]
variable [DecidableEq κ]
theorem MapG.entry_run (T : MapT P t k e kv kl ok ev dec z) (KL : WideMaps.KeyLaw P k) (M : MapG P k kl ok dec w b h cnt) (hn : cnt < maxLen) {u : κ} (hu : ok u) :
    ∃ (st : Nat) (w1 : World), (Instr.mapEntry t (.map (some b)) (kv u)).run P w = .ok (.tuple #[ev ((h u).getD z), .int .i64 st]) w1 ∧ MapG P k kl ok dec w1 b (fun i => if i = u then some ((h u).getD z) else h i) (if (h u).isSome then cnt else cnt + 1) ∧ w.grownBy w1 (some b) ∧
      ∀ (y : ε), ∃ w3, (Instr.entryStore t (.map (some b)) (.int .i64 st) (ev y)).run P w1 = .ok () w3 ∧ MapG P k kl ok dec w3 b (fun i => if i = u then some y else h i) (if (h u).isSome then cnt else cnt + 1) ∧ w.grownBy w3 (some b) := by
  have hlook := M.look_run T hu; have hput := fun y => M.put_run T hn hu y
  obtain ⟨D, ⟨es, clock, hb, F, hs, -⟩, -, -⟩ := M; obtain ⟨v0, st, w1, a1, a2, a3⟩ := entry_runs (w := w) KL T.ht T.hz hb F.keys (T.hkey u hu); obtain ⟨v0', st', es1, clock1, b1, -, b3⟩ := WideElems.entry_then_store KL T.ht T.hz hb F (T.hkey u hu); rw [a1] at b1; injection b1 with b1 b1w; injection b1 with b1; have c1 : v0 = v0' := by have := congrArg (fun a => a[0]?) b1; simpa using this
  have c2 : goInt st = goInt st' := by have := congrArg (fun a => a[1]?) b1; simpa using this
  rw [a3] at hlook; injection hlook with hv0; obtain ⟨wp, p1, p2, p3⟩ := hput ((h u).getD z); rw [← hv0, a2] at p1; injection p1 with _ p1; refine ⟨st, w1, by rw [a1, hv0]; rfl, by rw [p1]; exact p2, by rw [p1]; exact p3, fun y => ?_⟩; obtain ⟨wq, q1, q2, q3⟩ := hput y
  have hb1 : w1.heap[b]? = some (.map es1 clock1) := by
    rw [b1w]; exact heap_setBlock_same hb _
  obtain ⟨es', clock', r1, r2⟩ := b3 w1 (ev y) hb1; rw [q1] at r2; injection r2 with _ r2; refine ⟨wq, ?_, q2, q3⟩; have : setBlock w1 b (.map es' clock') = wq := by rw [r2, b1w]; unfold setBlock; simp
  rw [← this, ← r1, ← c2]; rfl
end
end Go.Proofs.YtlonokcaddpniaaGreatDoor
namespace Go.Proofs.YtlonokcaddpniaaGreatDoor
open Go.RowKit
/-- A work. -/
structure Wk where
  puts : List Pt
  takes : List Rf
def Wk.zero : Wk := ⟨[], []⟩
def xW : Xn := (0, ⟨#[120]⟩, ⟨#[]⟩)
/-- The entry that prepares a work. -/
def Wk.whole (w : Wk) : En := ⟨4, ⟨#[]⟩, 0, xW, w.puts, w.takes⟩
def sameR (a b : Rf) : Bool := (a.q.toList == b.q.toList) && decide (a.id = b.id)
theorem sameR_iff {a b : Rf} : sameR a b = true ↔ a = b := by
  unfold sameR; rw [Bool.and_eq_true, decide_eq_true_eq, same_iff]; obtain ⟨p, q⟩ := a; obtain ⟨r, s⟩ := b; simp
def cntR (l : List Rf) (r : Rf) : Nat := l.countP (fun x => sameR x r)
theorem cntR_nil (r : Rf) : cntR [] r = 0 := rfl
theorem cntR_cons (x : Rf) (l : List Rf) (r : Rf) : cntR (x :: l) r = cntR l r + if sameR x r = true then 1 else 0 := by unfold cntR; rw [List.countP_cons]
theorem cntR_append (a b : List Rf) (r : Rf) : cntR (a ++ b) r = cntR a r + cntR b r := by unfold cntR; rw [List.countP_append]
/-- Each take once. -/
def onceB (l : List Rf) : Bool := l.all (fun r => decide (cntR l r ≤ 1))
def Wk.okB (w : Wk) : Bool := w.whole.okB && onceB w.takes
def Wk.chk (w : Wk) : Int := if w.okB then 0 else 130
theorem wk_chk (w : Wk) : w.chk = 0 ∨ w.chk = 130 := by unfold Wk.chk; split; exact .inl rfl; exact .inr rfl
theorem wk_ok {w : Wk} : w.chk = 0 ↔ w.okB = true := by unfold Wk.chk; cases w.okB <;> simp
theorem whole_okB (w : Wk) : w.whole.okB = (decide (w.puts.length ≤ 100) && decide (w.takes.length ≤ 100) && w.puts.all (Pt.okB false) && w.takes.all Rf.okB) := by
  have h1 : us 4 = 12 := rfl; have h2 : uN 4 = false := rfl; have h3 : uM 4 = false := rfl; have h4 : uX 4 = true := rfl; have h5 : uW 4 = true := rfl; have h6 : Xn.okB xW = true := rfl; have h7 : (⟨#[]⟩ : ByteArray).size = 0 := rfl; have h8 : ((4 : Int) == 3) = false := rfl; unfold En.okB Wk.whole; simp only [h1, h2, h3, h4, h5, h6, h7, h8]; simp
/-- The document's way: put by put, take by take. -/
theorem wk_okB (w : Wk) : w.okB = true ↔ w.puts.length ≤ 100 ∧ w.takes.length ≤ 100 ∧ (∀ p ∈ w.puts, Pt.okB false p = true) ∧ ∀ r ∈ w.takes, Rf.okB r = true ∧ cntR w.takes r ≤ 1 := by
  unfold Wk.okB onceB; rw [whole_okB]; simp only [Bool.and_eq_true, decide_eq_true_eq, List.all_eq_true]; exact ⟨fun ⟨⟨⟨⟨a, b⟩, c⟩, d⟩, e⟩ => ⟨a, b, c, fun r hr => ⟨d r hr, e r hr⟩⟩, fun ⟨a, b, c, d⟩ => ⟨⟨⟨⟨a, b⟩, c⟩, fun r hr => (d r hr).1⟩, fun r hr => (d r hr).2⟩⟩
theorem cntR_pos {l : List Rf} {r : Rf} : 0 < cntR l r ↔ r ∈ l := by
  unfold cntR; rw [List.countP_pos_iff]; exact ⟨fun ⟨a, h, e⟩ => by rw [← sameR_iff.1 e]; exact h, fun h => ⟨r, h, sameR_iff.2 rfl⟩⟩
/-- The program's way: nothing that was met before. -/
theorem once_take {l : List Rf} : onceB l = true ↔ ∀ i, ∀ h : i < l.length, cntR (l.take i) l[i] = 0 := by
  unfold onceB; simp only [List.all_eq_true, decide_eq_true_eq]; constructor
  · intro h i hi; have h1 := h l[i] (List.getElem_mem hi); have e : cntR l l[i] = cntR (l.take i) l[i] + cntR (l.drop i) l[i] := by rw [← cntR_append, List.take_append_drop]
    have h2 : 0 < cntR (l.drop i) l[i] := cntR_pos.2 (by rw [List.drop_eq_getElem_cons hi]; exact List.mem_cons_self ..); omega
  · intro h r hr
    have key : ∀ n, n ≤ l.length → cntR (l.take n) r ≤ 1 := by
      intro n
      induction n with
      | zero => intro _; simp [cntR_nil]
      | succ n ih =>
        intro hn; have hn' : n < l.length := by omega
        rw [List.take_succ_eq_append_getElem hn', cntR_append, cntR_cons, cntR_nil]; by_cases e : sameR l[n] r = true
        · have h0 := h n hn'; rw [sameR_iff.1 e] at h0; rw [if_pos e, h0]; omega
        · rw [if_neg e]; have := ih (by omega); omega
    have := key l.length (Nat.le_refl _); rwa [List.take_length] at this
/-! ### the calls -/
def Wk.addPut (w : Wk) (p : Pt) : Wk × Int :=
  if w.okB = false ∨ Pt.okB false p = false then (Wk.zero, 130) else if 100 ≤ w.puts.length then (Wk.zero, 6) else (⟨w.puts ++ [p], w.takes⟩, 0)
def Wk.addTake (w : Wk) (r : Rf) : Wk × Int :=
  if w.okB = false ∨ Rf.okB r = false then (Wk.zero, 130) else if 0 < cntR w.takes r then (Wk.zero, 8) else if 100 ≤ w.takes.length then (Wk.zero, 6) else (⟨w.puts, w.takes ++ [r]⟩, 0)
def numP : List Pt → Int → List Pt
  | [], _ => []
  | p :: l, n => { p with id := n } :: numP l (n + 1)
def Wk.doE (w : Wk) (n : Int) : En × Int :=
  if w.okB = false then (En.zero, 130) else if w.puts ≠ [] ∧ (n = 0 ∨ 1099511627776 + 1 - (w.puts.length : Int) < n) then (En.zero, 6) else (⟨3, ⟨#[]⟩, 0, Xn.zero, numP w.puts n, w.takes⟩, 0)
theorem addPut_ok {w : Wk} {p : Pt} (h : w.okB = true) (hp : Pt.okB false p = true) (hl : w.puts.length < 100) : (Wk.mk (w.puts ++ [p]) w.takes).okB = true := by
  rw [wk_okB] at h ⊢; obtain ⟨a, b, c, d⟩ := h; refine ⟨by simp; omega, b, fun y hy => ?_, d⟩; rcases List.mem_append.1 hy with hy | hy
  · exact c y hy
  · rw [List.mem_singleton.1 hy]; exact hp
theorem addTake_ok {w : Wk} {r : Rf} (h : w.okB = true) (hr : Rf.okB r = true) (h0 : cntR w.takes r = 0) (hl : w.takes.length < 100) : (Wk.mk w.puts (w.takes ++ [r])).okB = true := by
  rw [wk_okB] at h ⊢; obtain ⟨a, b, c, d⟩ := h; refine ⟨a, by simp; omega, c, fun y hy => ?_⟩; have e : ∀ y, cntR (w.takes ++ [r]) y = cntR w.takes y + if sameR r y = true then 1 else 0 := fun y => by rw [cntR_append, cntR_cons, cntR_nil]; omega
  show Rf.okB y = true ∧ cntR (w.takes ++ [r]) y ≤ 1
  rw [e y]; by_cases hs : sameR r y = true
  · have hy' : r = y := sameR_iff.1 hs; subst hy'; rw [if_pos hs, h0]; exact ⟨hr, by omega⟩
  · rw [if_neg hs]; rcases List.mem_append.1 hy with hy | hy
    · exact ⟨(d y hy).1, by have := (d y hy).2; omega⟩
    · exact absurd (sameR_iff.2 (List.mem_singleton.1 hy).symm) hs
theorem numP_len : ∀ (l : List Pt) (n : Int), (numP l n).length = l.length
  | [], _ => rfl
  | p :: l, n => by simp [numP, numP_len l (n + 1)]
/-! ### names of queues -/
def Wk.names (w : Wk) : List ByteArray := w.puts.map Pt.q ++ w.takes.map Rf.q
/-- A name among sorted ones. -/
def insN : List ByteArray → ByteArray → List ByteArray
  | [], x => [x]
  | y :: l, x => if y.toList = x.toList then y :: l else if y.toList < x.toList then y :: insN l x else x :: y :: l
def sortN (l : List ByteArray) : List ByteArray := l.foldl insN []
def Wk.queues (w : Wk) : List ByteArray := if w.okB = false then [] else sortN w.names
theorem mem_insN : ∀ {l : List ByteArray} {x y : ByteArray}, y ∈ insN l x ↔ y = x ∨ y ∈ l
  | [], x, y => by simp [insN]
  | z :: l, x, y => by
    unfold insN; split
    · rename_i h; have : z = x := toList_inj h; subst this; simp
    · split
      · rw [List.mem_cons, mem_insN, List.mem_cons]; exact ⟨fun h => by rcases h with h | h | h; exact .inr (.inl h); exact .inl h; exact .inr (.inr h), fun h => by rcases h with h | h | h; exact .inr (.inl h); exact .inl h; exact .inr (.inr h)⟩
      · simp
theorem insN_rises : ∀ {l : List ByteArray} {x : ByteArray}, l.Pairwise (fun a b => a.toList < b.toList) → (insN l x).Pairwise (fun a b => a.toList < b.toList)
  | [], x, _ => by simp [insN]
  | y :: l, x, h => by
    obtain ⟨h1, h2⟩ := List.pairwise_cons.1 h; unfold insN; split
    · exact h
    · rename_i e; split
      · rename_i hl; refine List.pairwise_cons.2 ⟨fun z hz => ?_, insN_rises h2⟩; rcases mem_insN.1 hz with rfl | hz
        · exact hl
        · exact h1 z hz
      · rename_i hl
        have hx : x.toList < y.toList := by
          have h3 : x.toList ≤ y.toList := hl; rcases Classical.em (x.toList < y.toList) with h4 | h4
          · exact h4
          · exact absurd (List.le_antisymm (h4 : y.toList ≤ x.toList) h3) e
        refine List.pairwise_cons.2 ⟨fun z hz => ?_, h⟩; rcases List.mem_cons.1 hz with rfl | hz
        · exact hx
        · exact List.lt_trans hx (h1 z hz)
theorem foldN_spec : ∀ (l acc : List ByteArray), acc.Pairwise (fun a b => a.toList < b.toList) → (l.foldl insN acc).Pairwise (fun a b => a.toList < b.toList) ∧ ∀ y, y ∈ l.foldl insN acc ↔ y ∈ acc ∨ y ∈ l
  | [], acc, h => ⟨h, fun y => by simp⟩
  | x :: l, acc, h => by
    obtain ⟨h1, h2⟩ := foldN_spec l (insN acc x) (insN_rises h); refine ⟨h1, fun y => ?_⟩; rw [List.foldl_cons, h2 y, mem_insN, List.mem_cons]; exact ⟨fun h => by rcases h with (h | h) | h; exact .inr (.inl h); exact .inl h; exact .inr (.inr h), fun h => by rcases h with h | h | h; exact .inl (.inr h); exact .inl (.inl h); exact .inr h⟩
theorem sortN_rises (l : List ByteArray) : (sortN l).Pairwise (fun a b => a.toList < b.toList) := (foldN_spec l [] List.Pairwise.nil).1
theorem mem_sortN {l : List ByteArray} {y : ByteArray} : y ∈ sortN l ↔ y ∈ l := by rw [sortN, (foldN_spec l [] List.Pairwise.nil).2 y]; simp
def Wk.into (w : Wk) (x : ByteArray) : Nat := if w.okB = false then 0 else w.puts.countP (fun p => p.q.toList == x.toList)
def Wk.fromL (w : Wk) (x : ByteArray) : List Int := if w.okB = false then [] else (w.takes.filter (fun r => r.q.toList == x.toList)).map Rf.id
structure WkT where
  pv : Value
  tv : Value
  puts : List PtT
  takes : List Rf
def WkT.w (t : WkT) : Wk := ⟨t.puts.map PtT.p, t.takes⟩
def WkT.en (t : WkT) : EnT := ⟨4, ⟨#[]⟩, 0, xW, t.pv, t.tv, t.puts, t.takes⟩
def WkT.arg (t : WkT) : Value := .agg #[t.pv, t.tv]
theorem WkT.arg_mk (pv tv : Value) (puts : List PtT) (takes : List Rf) : (WkT.mk pv tv puts takes).arg = .agg #[pv, tv] := rfl
theorem WkT.en_arg (pv tv : Value) (puts : List PtT) (takes : List Rf) : (WkT.mk pv tv puts takes).en.arg = .agg #[.int .u8 4, .string ⟨#[]⟩, .int .u64 0, .int .u32 0, .string ⟨#[120]⟩, .string ⟨#[]⟩, pv, tv] := rfl
theorem WkT.en_e (t : WkT) : t.en.e = t.w.whole := rfl
/-- A work that lies in memory. -/
abbrev WkRd (P : Nat → Prop) (w : World) (t : WkT) : Prop := EnRd P w t.en
theorem wkrd_open {P : Nat → Prop} {w : World} {t : WkT} (h : WkRd P w t) : ∃ (pa : Option Addr) (pc : Nat) (ta : Option Addr) (tc : Nat) (puts : List PtT) (takes : List Rf),
    t = WkT.mk (.slice pa puts.length pc) (.slice ta takes.length tc) puts takes ∧ puts.length ≤ maxLen ∧ takes.length ≤ maxLen := by
  obtain ⟨pv, tv, puts, takes⟩ := t; obtain ⟨pa, pc, e1, h1⟩ : ∃ a c, pv = .slice a puts.length c ∧ puts.length ≤ maxLen := h.p.len
  obtain ⟨ta, tc, e2, h2⟩ : ∃ a c, tv = .slice a takes.length c ∧ takes.length ≤ maxLen := h.s.len
  exact ⟨pa, pc, ta, tc, puts, takes, by rw [e1, e2], h1, h2⟩
/-- An entry of other numbers with the same lists. -/
theorem EnRd.as {P : Nat → Prop} {w : World} {t : EnT} (h : EnRd P w t) (k : Int) (nm : ByteArray) (n : Int) (x : Xn) (h0 : 0 ≤ k) (h1 : k < 256) (h2 : 0 ≤ n) (h3 : n < 18446744073709551616) (h4 : 0 ≤ x.1) (h5 : x.1 < 4294967296) : EnRd P w ⟨k, nm, n, x, t.pv, t.tv, t.puts, t.takes⟩ :=
  ⟨h.p, h.pP, h.r, h.s, h.sP, ⟨h0, h1, h2, h3, h4, h5, h.wf.p, h.wf.t⟩⟩
theorem EnRd.work {P : Nat → Prop} {w : World} {t : EnT} (h : EnRd P w t) : WkRd P w ⟨t.pv, t.tv, t.puts, t.takes⟩ :=
  h.as 4 ⟨#[]⟩ 0 xW (by omega) (by omega) (by omega) (by omega) (by show (0 : Int) ≤ 0; omega) (by show (0 : Int) < 4294967296; omega)
def CkOk : Prop := ∀ (t : EnT) (P : Nat → Prop) (w : World), EnRd P w t → Tb w → Calls Tryz.prog 23 #[t.arg] w fun e w' => e = .returned (.int .i64 t.e.chk) ∧ Below w.heap.size w w'
def PuOk : Prop := ∀ (t : EnT) (P : Nat → Prop) (w : World), EnRd P w t → Tb w → Calls Tryz.prog 61 #[t.arg] w fun e w' => e = .returned (.tuple #[.string (if t.e.chk = 0 then t.e.text else ⟨#[]⟩), .int .i64 t.e.chk]) ∧ Below w.heap.size w w'
/-- What Get of a right entry's text tells. -/
def GeOk : Prop := ∀ (w : World) (s : ByteArray) (q : En), q.Wf → q.chk = 0 → q.text = s → Tb w → Calls Tryz.prog 62 #[.string s] w fun e w' => ∃ t : EnT, e = .returned (.tuple #[t.arg, .int .i64 0]) ∧ t.e = q ∧ EnOw w.heap.size w' t ∧ Below w.heap.size w w'
end Go.Proofs.YtlonokcaddpniaaGreatDoor
namespace Go.Proofs.YtlonokcaddpniaaGreatDoor
open Go.RowKit Go.ChangeMaps Go.MapKept
open Go.Maps (Keyed)
instance : DecidableEq Rf := fun a b => by
  obtain ⟨p, q⟩ := a; obtain ⟨r, s⟩ := b; exact if h : p.toList = r.toList ∧ q = s then .isTrue (by rw [toList_inj h.1, h.2]) else .isFalse (fun e => h (by injection e with e1 e2; exact ⟨by rw [e1], e2⟩))
def kvR (r : Rf) : Value := .agg #[.string r.q, .int .u64 r.id]
def klR (r : Rf) : Lit := .string (keyBytes [.string r.q.data.toList, .int .u64 r.id])
def okR (r : Rf) : Prop := r.q.size ≤ maxLen ∧ 0 ≤ r.id ∧ r.id < 18446744073709551616
def evN (n : Int) : Value := .int .i64 n
def decN : Value → Option Int
  | .int .i64 n => some n
  | _ => none
theorem laid17 : laidOutB Tryz.prog = true := by kernel_rfl
theorem row17 : 37 < Tryz.prog.types.size := of_decide_eq_true (by kernel_rfl)
theorem refs_law : WideMaps.KeyLaw Tryz.prog 37 := deep_law_laid laid17 (m := 2) (by omega) row17 (by kernel_rfl) (by kernel_rfl)
theorem ref_struct : ∃ fs, Tryz.prog.underlying 37 = some (.struct fs) := ⟨_, Tryz.underlying37⟩
theorem kvR_formed (r : Rf) : (kvR r).formed Tryz.prog 37 = true := by
  have hc : Tryz.prog.cellsOf 37 = 2 := by kernel_rfl
  obtain ⟨fs, hu⟩ := ref_struct; simp [kvR, Value.formed, hu, hc]
theorem keyOf_R (r : Rf) (h : okR r) : keyOf Tryz.prog 37 (kvR r) = some (klR r) := by
  have h1 : Tryz.prog.keyType 37 = true := by kernel_rfl
  have hc : Tryz.prog.cellsOf 37 = 2 := by kernel_rfl
  have hc1 : Tryz.prog.cellsOf 9 = 1 := by kernel_rfl
  have hc2 : Tryz.prog.cellsOf 26 = 1 := by kernel_rfl
  have hk : ∀ m, Tryz.prog.keyLits (m + 2) 37 [.string r.q, .int .u64 r.id] = some [.string r.q.data.toList, .int .u64 r.id] := fun m => by
    obtain ⟨a, b, c⟩ := h; have e1 : IntKind.u64.min ≤ r.id := b
    have e2 : r.id ≤ IntKind.u64.max := by have : IntKind.u64.max = 18446744073709551615 := by decide
                                           omega
    simp [Program.keyLits, Tryz.underlying37, Tryz.underlying9, Tryz.underlying26, hc, hc1, hc2, a, Lit.wf, e1, e2]
  have hs : 1 ≤ Tryz.prog.types.size := Nat.lt_of_le_of_lt (Nat.zero_le _) row17; obtain ⟨m, hm⟩ : ∃ m, Tryz.prog.types.size + 1 = m + 2 := ⟨Tryz.prog.types.size - 1, by omega⟩
  unfold keyOf; simp only [Tryz.underlying37, h1, kvR_formed r, hm]; rw [show (kvR r).cells.toList = [.string r.q, .int .u64 r.id] from rfl, hk m]; rfl
theorem kvR_inj {a b : Rf} (h : kvR a = kvR b) : a = b := by
  unfold kvR at h; simp at h; obtain ⟨p, q⟩ := a; obtain ⟨r, s⟩ := b; obtain ⟨h1, h2⟩ := h; subst h2; have : p = r := h1; rw [this]
theorem refsT : MapT Tryz.prog 86 37 3 kvR klR okR evN decN 0 where
  ht := Tryz.underlying86
  K := Keyed.of_law refs_law
  hkey := keyOf_R
  inj := fun x y hx hy h => kvR_inj (refs_law.inj (keyOf_R x hx) (by rw [h]; exact keyOf_R y hy))
  de := fun y => rfl
  ed := fun v y h => by
    unfold decN at h; split at h
    · injection h with h; subst h; rfl
    · cases h
  hz := fun w => by kernel_rfl
abbrev RefsM (w : World) (b : Nat) (h : Rf → Option Int) (cnt : Nat) : Prop := MapG Tryz.prog 37 klR okR decN w b h cnt
/-- What has been counted. -/
def seenH (L : List Rf) (r : Rf) : Option Int := if cntR L r = 0 then none else some (cntR L r)
theorem seen_get (L : List Rf) (r : Rf) : (seenH L r).getD 0 = cntR L r := by unfold seenH; split <;> simp_all
theorem seen_add (L : List Rf) (r i : Rf) : (if i = r then some ((cntR L r : Int) + 1) else seenH L i) = seenH (L ++ [r]) i := by
  unfold seenH; rw [cntR_append, cntR_cons, cntR_nil]; by_cases e : i = r
  · subst e; rw [if_pos rfl, if_pos (sameR_iff.2 rfl), if_neg (by omega)]; congr 1
  · rw [if_neg e, if_neg (fun q => e (sameR_iff.1 q).symm)]; simp
end Go.Proofs.YtlonokcaddpniaaGreatDoor
namespace Go.Proofs.YtlonokcaddpniaaGreatDoor
open Go.RowKit
theorem w_einfo : (Tryz.prog.info? 57).map (fun i => (i.zero, i.size)) = some (some (.agg #[.int .u8 0, .string ⟨#[]⟩, .int .u64 0, .int .u32 0, .string ⟨#[]⟩, .string ⟨#[]⟩, .slice none 0 0, .slice none 0 0]), 8) := by kernel_rfl
theorem w_xinfo : (Tryz.prog.info? 55).map (fun i => (i.zero, i.size)) = some (some (.agg #[.int .u32 0, .string ⟨#[]⟩, .string ⟨#[]⟩]), 3) := by kernel_rfl
theorem w_info : (Tryz.prog.info? 25).map (fun i => (i.zero, i.size)) = some (some (.agg #[.slice none 0 0, .slice none 0 0]), 2) := by kernel_rfl
def ent8 (w : World) (B : Nat) (v0 v1 v2 v3 v4 v5 v6 v7 : Value) : World := (((((((w.setCell ⟨B, 0, none⟩ v0).setCell ⟨B, 1, none⟩ v1).setCell ⟨B, 2, none⟩ v2).setCell ⟨B, 3, none⟩ v3).setCell ⟨B, 4, none⟩ v4).setCell ⟨B, 5, none⟩ v5).setCell ⟨B, 6, none⟩ v6).setCell ⟨B, 7, none⟩ v7
theorem upd_one {S : Nat → Prop} {w w' : World} (h : Upd S w w') (B : Nat) (j : Nat) (v : Value) (hB : S B) : Upd S w (w'.setCell ⟨B, j, none⟩ v) := h.trans (Upd.set (S := S) (p := ⟨B, j, none⟩) hB v) (fun _ h _ => h)
theorem Upd.ent8 (w : World) (B : Nat) (v0 v1 v2 v3 v4 v5 v6 v7 : Value) : Upd (fun k => k = B) w (ent8 w B v0 v1 v2 v3 v4 v5 v6 v7) := upd_one (S := fun k => k = B) (upd_one (S := fun k => k = B) (upd_one (S := fun k => k = B) (upd_one (S := fun k => k = B) (upd_one (S := fun k => k = B) (upd_one (S := fun k => k = B) (upd_one (S := fun k => k = B) (upd_one (S := fun k => k = B) (Upd.refl (fun k => k = B) w) B 0 v0 rfl) B 1 v1 rfl) B 2 v2 rfl) B 3 v3 rfl) B 4 v4 rfl) B 5 v5 rfl) B 6 v6 rfl) B 7 v7 rfl
theorem Blk.ent8 {w : World} {B : Nat} {c0 c1 c2 c3 c4 c5 c6 c7 : Value} (h : Blk w B [c0, c1, c2, c3, c4, c5, c6, c7]) (v0 v1 v2 v3 v4 v5 v6 v7 : Value) : Blk (ent8 w B v0 v1 v2 v3 v4 v5 v6 v7) B [v0, v1, v2, v3, v4, v5, v6, v7] := (((((((h.set 0 v0).set 1 v1).set 2 v2).set 3 v3).set 4 v4).set 5 v5).set 6 v6).set 7 v7
def wk2 (w : World) (B : Nat) (v0 v1 : Value) : World := (w.setCell ⟨B, 0, none⟩ v0).setCell ⟨B, 1, none⟩ v1
theorem Upd.wk2 (w : World) (B : Nat) (v0 v1 : Value) : Upd (fun k => k = B) w (wk2 w B v0 v1) := upd_one (S := fun k => k = B) (upd_one (S := fun k => k = B) (Upd.refl (fun k => k = B) w) B 0 v0 rfl) B 1 v1 rfl
theorem Blk.wk2 {w : World} {B : Nat} {c0 c1 : Value} (h : Blk w B [c0, c1]) (v0 v1 : Value) : Blk (wk2 w B v0 v1) B [v0, v1] := (h.set 0 v0).set 1 v1
theorem Blk.newE (w : World) (cs : List Value) (T : TypeId) (k : Nat) (h : w.heap.size = k) : Blk (w.alloc (.cells cs.toArray T)) k cs := h ▸ Blk.new w cs T
theorem ent8_below {w W : World} {B : Nat} (h : Below w.heap.size w W) (hB : w.heap.size ≤ B) (v0 v1 v2 v3 v4 v5 v6 v7 : Value) : Below w.heap.size w (ent8 W B v0 v1 v2 v3 v4 v5 v6 v7) := h.trans ((Upd.ent8 W B v0 v1 v2 v3 v4 v5 v6 v7).below h.size (fun k e => by have e : k = B := e; omega))
theorem wk2_below {w W : World} {B : Nat} (h : Below w.heap.size w W) (hB : w.heap.size ≤ B) (v0 v1 : Value) : Below w.heap.size w (wk2 W B v0 v1) := h.trans ((Upd.wk2 W B v0 v1).below h.size (fun k e => by have e : k = B := e; omega))
set_option maxRecDepth 100000 in
set_option maxHeartbeats 1600000 in
theorem whole_any (w : World) (pa ta : Option Addr) (pn pc tn tc : Nat) : Calls Tryz.prog 35 #[.agg #[.slice pa pn pc, .slice ta tn tc]] w fun e w' => e = .returned (.agg #[.int .u8 4, .string ⟨#[]⟩, .int .u64 0, .int .u32 0, .string ⟨#[120]⟩, .string ⟨#[]⟩, .slice pa pn pc, .slice ta tn tc]) ∧ Below w.heap.size w w' := by
  have zi := w_einfo; have zx := w_xinfo; have hA := Lib.hid (((Below.refl w.heap.size w).alloc (Nat.le_refl _) (.cells #[.slice pa pn pc, .slice ta tn tc] 25)).alloc (by simp) (.cells #[.int .u8 4, .string ⟨#[]⟩, .int .u64 0, .int .u32 0, .string ⟨#[120]⟩, .string ⟨#[]⟩, .slice pa pn pc, .slice ta tn tc] 57)); have K := Lib.hid (Blk.newE (w.alloc (.cells #[.slice pa pn pc, .slice ta tn tc] 25)) [.int .u8 4, .string ⟨#[]⟩, .int .u64 0, .int .u32 0, .string ⟨#[120]⟩, .string ⟨#[]⟩, .slice pa pn pc, .slice ta tn tc] 57 (w.heap.size + 1) (by simp)); go_enter Tryz.func35, Tryz.ntmps35; go_wp2; have K := K.out; have hA := hA.out; have k0 := K.at 0 rfl; have k1 := K.at 1 rfl; have k2 := K.at 2 rfl; have k3 := K.at 3 rfl; have k4 := K.at 4 rfl; have k5 := K.at 5 rfl; have k6 := K.at 6 rfl; have k7 := K.at 7 rfl; refine bodyPost_ret (by simp [results, Tryz.results35, go_sem, k0, k1, k2, k3, k4, k5, k6, k7]; rfl) rfl ?_; exact ⟨rfl, hA⟩
end Go.Proofs.YtlonokcaddpniaaGreatDoor
namespace Go.Proofs.YtlonokcaddpniaaGreatDoor
open Go.RowKit Go.Maps
theorem upd_drew (S : Nat → Prop) (u : World) : Upd S u u.drew := (Upd.refl S u).drew
theorem upd_grown {u w2 : World} {b : Nat} (h : u.grownBy w2 (some b)) : Upd (fun k => k = b) u w2 :=
  Upd.grown (S := fun k => k = b) h (fun k hk => by injection hk with hk; exact hk.symm)
theorem wk_bad {t : WkT} (h : t.en.e.chk ≠ 0) : t.w.chk = 130 := by
  unfold Wk.chk; rw [if_neg]; intro q; unfold Wk.okB at q; simp only [Bool.and_eq_true] at q; exact h (en_ok.2 q.1)
theorem wk_twice {w : Wk} {i : Nat} (hi : i < w.takes.length) (h : cntR (w.takes.take i) w.takes[i] ≠ 0) : w.chk = 130 := by
  unfold Wk.chk; rw [if_neg]; intro q; unfold Wk.okB at q; simp only [Bool.and_eq_true] at q; exact h (once_take.1 q.2 i hi)
theorem wk_good {w : Wk} (h : w.whole.chk = 0) (h2 : ∀ i, ∀ h : i < w.takes.length, cntR (w.takes.take i) w.takes[i] = 0) : w.chk = 0 := by
  rw [wk_ok]; unfold Wk.okB; rw [en_ok.1 h, once_take.2 h2]; rfl
set_option maxRecDepth 100000 in
set_option maxHeartbeats 6400000 in
theorem wcheck_any (hCk : CkOk) (t : WkT) (P : Nat → Prop) (w : World) (hR : WkRd P w t) (hT : Tb w) : Calls Tryz.prog 16 #[t.arg] w fun e w' => e = .returned (.int .i64 t.w.chk) ∧ Below w.heap.size w w' := by
  obtain ⟨pa, pc, ta, tc, puts, takes, rfl, hpl, htl⟩ := wkrd_open hR; have hB1 := (Below.refl w.heap.size w).alloc (Nat.le_refl _) (.cells #[.slice pa puts.length pc, .slice ta takes.length tc] 25); have A1 := Blk.new w [.slice pa puts.length pc, .slice ta takes.length tc] 25; have a0 := A1.at 0 rfl; have a1 := A1.at 1 rfl; obtain ⟨ck, hck0⟩ : ∃ ck, (WkT.mk (.slice pa puts.length pc) (.slice ta takes.length tc) puts takes).en.e.chk = ck := ⟨_, rfl⟩
  have hck := fun (u : World) (h : Below w.heap.size w u) => hCk (WkT.mk (.slice pa puts.length pc) (.slice ta takes.length tc) puts takes).en P u (hR.pure h) (hT.pure h)
  simp only [WkT.en_arg, hck0] at hck; obtain ⟨W, hW⟩ : ∃ W, (WkT.mk (.slice pa puts.length pc) (.slice ta takes.length tc) puts takes).w = W := ⟨_, rfl⟩
  have hWt : W.takes = takes := by rw [← hW]; rfl
  have hckW : W.whole.chk = ck := by rw [← hW, ← hck0]; rfl
  rw [WkT.arg_mk, hW]; have hckh := Lib.hid hck; have hWw := Lib.hid hR; have hWh := Lib.hid hW; have hck0h := Lib.hid hckW; have hWth := Lib.hid hWt; clear hck hR hpl hW hck0 hckW hWt; go_enter Tryz.func16, Tryz.ntmps16; by_cases hk0 : ck = 0
  rotate_left 1
  · have hz : W.chk = 130 := by
      have := wk_bad (t := WkT.mk (.slice pa puts.length pc) (.slice ta takes.length tc) puts takes) (by rw [WkT.en_e, hWh.out, hck0h.out]; exact hk0); rw [hWh.out] at this; exact this
    rw [hz]; clear hz; have hk1 : (ck != 0) = true := bne_iff_ne.2 hk0; go_wp2_with (first | (go_at_call 35; (with_reducible refine (whole_any _ pa ta puts.length pc takes.length tc).mono ?_); rintro e w2 ⟨rfl, hB2⟩; have A2 := A1.pure hB2; have hT2 := hB1.trans (hB2.mono hB1.size)) | (go_at_call 23; (with_reducible refine (hckh.out w2 hT2).mono ?_); rintro e w3 ⟨rfl, hB3⟩; have hT3 := hT2.trans (hB3.mono hT2.size))); go_ret; exact ⟨rfl, hT3⟩
  subst hk0; have hmm := @run_makeMap Tryz.prog; go_wp2_with (first | (go_at_call 35; (with_reducible refine (whole_any _ pa ta puts.length pc takes.length tc).mono ?_); rintro e w2 ⟨rfl, hB2⟩; have A2 := A1.pure hB2; have hT2 := hB1.trans (hB2.mono hB1.size)) | (go_at_call 23; (with_reducible refine (hckh.out w2 hT2).mono ?_); rintro e w3 ⟨rfl, hB3⟩; have hT3 := hT2.trans (hB3.mono hT2.size); have A3 := A2.pure hB3; have A4 := A3.alloc (.map #[] 0); have b1 := A4.at 1 rfl; clear a0 a1)); have hm2 := hT3.size; obtain ⟨mb, hmb⟩ : ∃ mb, w3.heap.size = mb := ⟨_, rfl⟩
  have hBm : Below w.heap.size w (w3.alloc (.map #[] 0)) := hT3.alloc hm2 _; have M0 : RefsM (w3.alloc (.map #[] 0)) w3.heap.size (seenH (takes.take 0)) 0 := MapG.made w3; generalize w3.alloc (.map #[] 0) = w4 at hBm M0 ⊢
  have hal := Lib.hid (show ∀ r ∈ takes, okR r by
    intro r hr; have h1 := hWw.out.wf.t r hr; have h2 := en_ok.1 hck0h.out; rw [whole_okB] at h2; simp only [Bool.and_eq_true] at h2; have h3 := List.all_eq_true.1 h2.2 r (by rw [hWth.out]; exact hr); unfold Rf.okB at h3; simp only [Bool.and_eq_true] at h3
    exact ⟨Nat.le_trans (qn_le h3.1) (by unfold maxLen; omega), h1.1, h1.2⟩)
  have hmbw : w.heap.size ≤ w3.heap.size := hm2; rw [hmb] at M0 hmbw ⊢; clear hm2 b1 A4 hmb A3 A2 hB3 hB2 hT3 hT2 A1 hB1 hckh
  go_loopw [5, 14] (fun _ s14 wr => ∃ i cnt : Nat, i ≤ takes.length ∧ s14 = .int .i64 i ∧ Below w.heap.size w wr ∧ RefsM wr mb (seenH (takes.take i)) cnt ∧ cnt ≤ i ∧ ∀ j, ∀ h : j < takes.length, j < i → cntR (takes.take j) takes[j] = 0)
    (fun _ s14 _ => takes.length - (intOf s14).toNat)
  case atStart => exact ⟨0, 0, by omega, rfl, hBm, M0, Nat.le_refl _, fun j h hj => by omega⟩
  case round =>
    obtain ⟨i, cnt, hi, rfl, hBr, M, hcn, hall⟩ := hrel; have hallh := Lib.hid hall; clear hall hBm M0 hmm; by_cases hlt : i < takes.length
    · have Rw := hWw.out.pure hBr; have hRs : Slc rfEnc 2 wr (.slice ta takes.length tc) takes := Rw.s; obtain ⟨g, off, rfl⟩ := hRs.addrB hlt; obtain ⟨q, id, hx, c0, c1⟩ := rf_elem hRs hlt; have hok : okR ⟨q, id⟩ := by rw [← hx]; exact hal.out _ (List.getElem_mem hlt)
      clear Rw hRs; have B1 := Blk.new wr [.string q, .int .u64 id] 37; have hBn : Below w.heap.size w (wr.alloc (.cells #[.string q, .int .u64 id] 37)) := hBr.alloc hBr.size _; have hne : wr.heap.size ≠ mb := fun e => by have := M.lt; omega
      have M1 := M.alloc (.cells #[.string q, .int .u64 id] 37); obtain ⟨c, hcc⟩ : ∃ c : Nat, cntR (takes.take i) ⟨q, id⟩ = c := ⟨_, rfl⟩
      have hcl : c ≤ i := by rw [← hcc]; exact Nat.le_trans (by unfold cntR; exact List.countP_le_length) (by rw [List.length_take]; omega)
      have hMl : takes.length ≤ 9223372036854775807 := by unfold maxLen at htl; omega
      have hcch := Lib.hid hcc; have hxh := Lib.hid hx; have hokh := Lib.hid hok; clear hcc hx hok; go_upto_region 7 with fail; generalize wr.alloc (.cells #[.string q, .int .u64 id] 37) = U at B1 hBn M1 ⊢; clear c0 c1 hBr M; have hb := upd_drew (fun k => k = mb) U; refine wp_region_held_drew (S := fun v => Upd (fun k => k = mb) U v) (by kernel_rfl) hb (fun hHeld => ?_); refine takeY 0 18 rfl rfl (v := ?_) ?_ hHeld ?_
      rotate_left 1
      · (intro v hSw; (try dsimp only at hSw); clear hSw; go_simp; (try with_reducible rfl))
      (try simp only [Act.put, lsT, lsZ, lsS]); refine takeY 1 19 rfl rfl (v := ?_) ?_ hHeld ?_
      rotate_left 1
      · (intro v hSw; (try dsimp only at hSw); have q := B1.upd hSw hne; have q0 := q.at 0 rfl; have q1 := q.at 1 rfl; clear q; clear hSw; go_simp; (try with_reducible rfl))
      (try simp only [Act.put, lsT, lsZ, lsS]); obtain ⟨st, w1, hrun, M2, hg1, hst⟩ := (M1.drew).entry_run refsT refs_law (by unfold maxLen; omega) hokh.out; obtain ⟨w5, hrun2, M3, hg2⟩ := hst (IntKind.i64.wrap ((c : Int) + 1)); have hwr : IntKind.i64.wrap ((c : Int) + 1) = (c : Int) + 1 := by rw [IntKind.wrap_i64]; omega
      have hl1 := (M1.drew).look_run refsT hokh.out; have hl2 := M2.look_run refsT hokh.out; rw [if_pos rfl] at hl2; simp only [seen_get, hcch.out, Option.getD_some] at hrun hl1 hl2; unfold kvR evN at hrun hl1 hl2; unfold evN at hrun2; have hwrh := Lib.hid hwr; clear hwr; have hb1 : Upd (fun k => k = mb) U w1 := hb.trans (upd_grown hg1) (fun _ h _ => h); have hb2 : Upd (fun k => k = mb) U w5 := hb.trans (upd_grown hg2) (fun _ h _ => h); refine wpAnyH_ready (rs := [2, 4]) (by kernel_rfl) (by simp) ?_; refine AllReadyH.cons rfl (fun Kq hKq => ?_) (AllReadyH.cons rfl (fun Kq hKq => ?_) AllReadyH.nil)
      focus
        go_simp; refine hKq.out _ _ hb (fun hHeld => ?_); clear hKq Kq; (try simp only [Act.put, lsT, lsZ, lsS]); refine takeY 3 21 rfl rfl (v := ?_) ?_ hHeld ?_
        rotate_left 1
        · (intro v hSw; (try dsimp only at hSw); clear hSw; go_simp; (try with_reducible rfl))
        (try simp only [Act.put, lsT, lsZ, lsS]); refine wpAnyH_ready (rs := [4]) (by kernel_rfl) (by simp) ?_; refine AllReadyH.cons rfl (fun Kq hKq => ?_) AllReadyH.nil; go_simp; refine hKq.out _ _ hb1 (fun hHeld => ?_); clear hKq Kq; (try simp only [Act.put, lsT, lsZ, lsS]); refine takeY 5 23 rfl rfl (v := ?_) ?_ hHeld ?_
        rotate_left 1
        · (intro v hSw; (try dsimp only at hSw); clear hSw; go_simp; (try with_reducible rfl))
      rotate_left 1
      focus
        go_simp; refine hKq.out _ _ hb1 (fun hHeld => ?_); clear hKq Kq; (try simp only [Act.put, lsT, lsZ, lsS]); refine takeY 5 23 rfl rfl (v := ?_) ?_ hHeld ?_
        rotate_left 1
        · (intro v hSw; (try dsimp only at hSw); clear hSw; go_simp; (try with_reducible rfl))
        (try simp only [Act.put, lsT, lsZ, lsS]); refine wpAnyH_ready (rs := [2]) (by kernel_rfl) (by simp) ?_; refine AllReadyH.cons rfl (fun Kq hKq => ?_) AllReadyH.nil; go_simp; refine hKq.out _ _ hb1 (fun hHeld => ?_); clear hKq Kq; (try simp only [Act.put, lsT, lsZ, lsS]); refine takeY 3 21 rfl rfl (v := ?_) ?_ hHeld ?_
        rotate_left 1
        · (intro v hSw; (try dsimp only at hSw); clear hSw; go_simp; (try with_reducible rfl))
      rotate_left 1
      all_goals
        (try simp only [Act.put, lsT, lsZ, lsS]); refine wpAnyH_ready (rs := [6]) (by kernel_rfl) (by simp) ?_; refine AllReadyH.cons rfl (fun Kq hKq => ?_) AllReadyH.nil; go_simp; refine hKq.out _ _ hb2 (fun hHeld => ?_); clear hKq Kq; (try simp only [Act.put, lsT, lsZ, lsS]); refine wpAnyH_done (by kernel_rfl) ?_ _
        have M4 : RefsM w5 mb (seenH (takes.take (i + 1))) (if (seenH (takes.take i) ⟨q, id⟩).isSome then cnt else cnt + 1) := M3.ext (fun x _ => by
          rw [List.take_succ_eq_append_getElem hlt, hxh.out, ← seen_add, hcch.out, hwrh.out])
        have hcn4 : (if (seenH (takes.take i) ⟨q, id⟩).isSome then cnt else cnt + 1) ≤ i + 1 := by split <;> omega
        have hl3 := M3.look_run refsT hokh.out; rw [if_pos rfl, Option.getD_some, hwrh.out] at hl3; unfold kvR evN at hl3; have B5 := B1.upd hb2 hne; have d0 := B5.at 0 rfl; have d1 := B5.at 1 rfl; have hB5 : Below w.heap.size w w5 := hBn.trans (hb2.below hBn.size (fun k e => by have e : k = mb := e; omega)); clear M1 M2 M3 hrun hrun2 hl1 hl2 hst hb hb1 hb2 hg1 hg2 B1 hHeld; by_cases hc0 : c = 0
        · subst hc0; go_wp2; go_round
          case rel => exact ⟨i + 1, _, by omega, by go_num, hB5, M4, hcn4, fun j h hj => by
            rcases Nat.lt_or_ge j i with q | q
            · exact hallh.out j h q
            · obtain rfl : j = i := by omega
              rw [hxh.out]; exact hcch.out⟩
          case measure => simp [intOf]; omega
        · have hz : W.chk = 130 := wk_twice (i := i) (by rw [hWth.out]; exact hlt) (by simp only [hWth.out, hxh.out, hcch.out]; exact hc0); have hzh := Lib.hid hz; clear hz; have hc1 : (1 : Int) < (c : Int) + 1 := by omega
          have hc2 : decide ((1 : Int) < (c : Int) + 1) = true := decide_eq_true hc1; go_wp2; go_ret; exact ⟨by rw [hzh.out]; rfl, hB5⟩
    · have hz : W.chk = 0 := wk_good hck0h.out (fun j h => by
        have hj : j < takes.length := by rw [← hWth.out]; exact h
        simp only [hWth.out]
        exact hallh.out j hj (by omega))
      have hzh := Lib.hid hz; clear hz; obtain rfl : i = takes.length := by omega
      clear M; go_wp2; go_ret; exact ⟨by rw [hzh.out]; rfl, hBr⟩
end Go.Proofs.YtlonokcaddpniaaGreatDoor
namespace Go.Proofs.YtlonokcaddpniaaGreatDoor
open Go.RowKit
set_option maxRecDepth 100000 in
set_option maxHeartbeats 6400000 in
theorem own_any (hPu : PuOk) (hGe : GeOk) (t : EnT) (P : Nat → Prop) (w : World) (hR : EnRd P w t) (h0 : t.e.chk = 0) (hT : Tb w) : Calls Tryz.prog 45 #[t.arg] w fun e w' => ∃ t' : EnT, e = .returned t'.arg ∧ t'.e = t.e ∧ EnOw w.heap.size w' t' ∧ Below w.heap.size w w' := by
  obtain ⟨s, hs⟩ : ∃ s, t.e.text = s := ⟨_, rfl⟩
  have hput := fun (u : World) (h : Below w.heap.size w u) => hPu t P u (hR.pure h) (hT.pure h)
  have hget := fun (u : World) (h : Below w.heap.size w u) => hGe u s t.e hR.wf h0 hs (hT.pure h)
  simp only [h0, hs, if_true] at hput; obtain ⟨q, hq⟩ : ∃ q, t.e = q := ⟨_, rfl⟩
  rw [hq] at hget ⊢; clear h0 hs hq; obtain ⟨kind, name, n, xf, xg, xb, pa, pc, ta, tc, puts, takes, rfl, -, -⟩ := hR.open; clear hR; simp only [EnT.arg_mk] at hput ⊢; have hputh := Lib.hid hput; have hgeth := Lib.hid hget; clear hput hget; have zi := w_einfo; have hB1 := ((Below.refl w.heap.size w).alloc (Nat.le_refl _) (.cells #[.int .u8 kind, .string name, .int .u64 n, .int .u32 xf, .string xg, .string xb, .slice pa puts.length pc, .slice ta takes.length tc] 57)).alloc (by simp) (.cells #[.int .u8 0, .string ⟨#[]⟩, .int .u64 0, .int .u32 0, .string ⟨#[]⟩, .string ⟨#[]⟩, .slice none 0 0, .slice none 0 0] 57); have A1 := (Blk.new w [.int .u8 kind, .string name, .int .u64 n, .int .u32 xf, .string xg, .string xb, .slice pa puts.length pc, .slice ta takes.length tc] 57).alloc (.cells #[.int .u8 0, .string ⟨#[]⟩, .int .u64 0, .int .u32 0, .string ⟨#[]⟩, .string ⟨#[]⟩, .slice none 0 0, .slice none 0 0] 57); have Z1 := Blk.newE (w.alloc (.cells #[.int .u8 kind, .string name, .int .u64 n, .int .u32 xf, .string xg, .string xb, .slice pa puts.length pc, .slice ta takes.length tc] 57)) [.int .u8 0, .string ⟨#[]⟩, .int .u64 0, .int .u32 0, .string ⟨#[]⟩, .string ⟨#[]⟩, .slice none 0 0, .slice none 0 0] 57 (w.heap.size + 1) (by simp); have a0 := A1.at 0 rfl; have a1 := A1.at 1 rfl; have a2 := A1.at 2 rfl; have a3 := A1.at 3 rfl; have a4 := A1.at 4 rfl; have a5 := A1.at 5 rfl; have a6 := A1.at 6 rfl; have a7 := A1.at 7 rfl; go_enter Tryz.func45, Tryz.ntmps45
  go_wp2_with (first
    | (go_at_call 61; (with_reducible refine (hputh.out _ hB1).mono ?_); rintro e w2 ⟨rfl, hB2⟩; have Z2 := Z1.pure hB2; have hT2 := hB1.trans (hB2.mono hB1.size); clear a0 a1 a2 a3 a4 a5 a6 a7)
    | (go_at_call 62; (with_reducible refine (hgeth.out w2 hT2).mono ?_); rintro e w3 ⟨tr, rfl, hqr, hRr, hB3⟩; obtain ⟨kr, nr, mr, yf, yg, yb, ra, rc, sa, sc, rputs, rtakes, rfl, -, -⟩ := hRr.rd.open; rw [EnT.arg_mk]; have hqh := Lib.hid hqr; clear hqr; have Z3 := (Z2.pure hB3).alloc (.cells #[.int .u8 kr, .string nr, .int .u64 mr, .int .u32 yf, .string yg, .string yb, .slice ra rputs.length rc, .slice sa rtakes.length sc] 57); have hA := (Below.refl w3.heap.size w3).alloc (Nat.le_refl _) (.cells #[.int .u8 kr, .string nr, .int .u64 mr, .int .u32 yf, .string yg, .string yb, .slice ra rputs.length rc, .slice sa rtakes.length sc] 57); have hs2 := Lib.hid (show w.heap.size + 2 ≤ w2.heap.size by have := hB2.size; simp at this; omega); have Rr := Lib.hid (hRr.pure hA); clear hRr; have C3 := Blk.new w3 [.int .u8 kr, .string nr, .int .u64 mr, .int .u32 yf, .string yg, .string yb, .slice ra rputs.length rc, .slice sa rtakes.length sc] 57; have hT3 := (hT2.trans (hB3.mono hT2.size)); have hT4 := hT3.trans (hA.mono hT3.size); have y0 := Z3.frozen 0; have z0 := Z3.at 0 rfl; have y1 := Z3.frozen 1; have z1 := Z3.at 1 rfl; have y2 := Z3.frozen 2; have z2 := Z3.at 2 rfl; have y3 := Z3.frozen 3; have z3 := Z3.at 3 rfl; have y4 := Z3.frozen 4; have z4 := Z3.at 4 rfl; have y5 := Z3.frozen 5; have z5 := Z3.at 5 rfl; have y6 := Z3.frozen 6; have z6 := Z3.at 6 rfl; have y7 := Z3.frozen 7; have z7 := Z3.at 7 rfl; have c0 := C3.at 0 rfl; have c1 := C3.at 1 rfl; have c2 := C3.at 2 rfl; have c3 := C3.at 3 rfl; have c4 := C3.at 4 rfl; have c5 := C3.at 5 rfl; have c6 := C3.at 6 rfl; have c7 := C3.at 7 rfl))
  have K := Z3.ent8 (.int .u8 kr) (.string nr) (.int .u64 mr) (.int .u32 yf) (.string yg) (.string yb) (.slice ra rputs.length rc) (.slice sa rtakes.length sc); have hU := Upd.ent8 (w3.alloc (.cells #[.int .u8 kr, .string nr, .int .u64 mr, .int .u32 yf, .string yg, .string yb, .slice ra rputs.length rc, .slice sa rtakes.length sc] 57)) (w.heap.size + 1) (.int .u8 kr) (.string nr) (.int .u64 mr) (.int .u32 yf) (.string yg) (.string yb) (.slice ra rputs.length rc) (.slice sa rtakes.length sc); have hF := ent8_below hT4 (B := w.heap.size + 1) (by omega) (.int .u8 kr) (.string nr) (.int .u64 mr) (.int .u32 yf) (.string yg) (.string yb) (.slice ra rputs.length rc) (.slice sa rtakes.length sc); unfold ent8 at K hU hF; have k0 := K.at 0 rfl; have k1 := K.at 1 rfl; have k2 := K.at 2 rfl; have k3 := K.at 3 rfl; have k4 := K.at 4 rfl; have k5 := K.at 5 rfl; have k6 := K.at 6 rfl; have k7 := K.at 7 rfl; refine bodyPost_ret (by simp [results, Tryz.results45, go_sem, k0, k1, k2, k3, k4, k5, k6, k7]; rfl) rfl ?_; exact ⟨EnT.mk kr nr mr (yf, yg, yb) (.slice ra rputs.length rc) (.slice sa rtakes.length sc) rputs rtakes, rfl, hqh.out, (Rr.out.upd hU (fun k hk e => by have e : k = w.heap.size + 1 := e; have := hs2.out; omega)).base hT2.size, hF⟩
end Go.Proofs.YtlonokcaddpniaaGreatDoor
