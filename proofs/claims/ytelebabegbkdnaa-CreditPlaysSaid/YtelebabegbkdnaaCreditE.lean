/- Contracts of package credit, fifth part: Turn. Conditions: the round's memory as 'Rnd' says; at most a million subscriptions; credits fit. -/
import Derived.Test.YtelebabegbkdnaaCreditD
namespace Go.Proofs.Ytelebabegbkdnaa
open Go.RowKit Go.Shelf
attribute [local go_sem] Oper.semAt_some

/-- May a subscription be served? -/
def serv (may : List ByteArray) (p : Sub) : Bool := decide (0 < p.2) && may.any (fun x => sameS p.1 x)

theorem Blk.kept {w w' : World} {b : Nat} {cs : List Value} {row : Option Nat} (h : Blk w b cs) (hg : w.grownBy w' row)
    (hr : ∀ r, row = some r → ∃ o : Obj, w.heap[r]? = some o ∧ o.isCells = false) : Blk w' b cs :=
  h.keep (hg.block b h.lt (fun e => by
    obtain ⟨o, ho, hc⟩ := hr b e.symm
    obtain ⟨T, hT⟩ := h
    rw [hT] at ho; cases ho; simp [Obj.isCells] at hc))
theorem Own.kept {α : Type} {base : Nat} {e : TypeId} {m : Nat} {enc : α → List Value} {w w' : World} {v : Value} {L : List α} {row : Option Nat} (h : Own base e m enc w v L) (hg : w.grownBy w' row)
    (hr : ∀ r, row = some r → ∃ o : Obj, w.heap[r]? = some o ∧ o.isCells = false) : Own base e m enc w' v L := by
  refine ⟨h.1, ?_⟩
  rcases h.2 with hn | ⟨g, cap, cur, rfl, hb, hgg, rest⟩
  · exact .inl hn
  · refine .inr ⟨g, cap, cur, rfl, hb, (hg.block g (Array.getElem?_eq_some_iff.1 hgg).1 (fun e => ?_)).trans hgg, rest⟩
    obtain ⟨o, ho, hc⟩ := hr g e.symm
    rw [hgg] at ho; cases ho; simp [Obj.isCells] at hc
theorem Rnd.kept {w w' : World} {r : Nat} {v : Value} {L : List Sub} {nx : Nat} {row : Option Nat} (h : Rnd w r v L nx) (hg : w.grownBy w' row)
    (hr : ∀ r, row = some r → ∃ o : Obj, w.heap[r]? = some o ∧ o.isCells = false) : Rnd w' r v L nx := ⟨h.1.kept hg hr, h.2.1.kept hg hr, h.2.2⟩

theorem mem_places {n nx : Nat} (i : Fin n) : i ∈ places n nx := by
  have hn : 0 < n := by have := i.2; omega
  unfold places upto
  rw [dif_pos hn, List.mem_map]
  refine ⟨(i.1 + (n - nx % n)) % n, List.mem_range.2 (Nat.mod_lt _ hn), ?_⟩
  apply Fin.ext
  show (nx + (i.1 + (n - nx % n)) % n) % n = i.1
  have h1 := Nat.mod_lt nx hn
  rw [Nat.add_mod, Nat.mod_mod, ← Nat.add_mod]
  have h2 : nx + (i.1 + (n - nx % n)) = i.1 + n + (nx - nx % n) := by
    have := Nat.mod_le nx n; omega
  rw [h2]
  have h3 : nx - nx % n = n * (nx / n) := by have := Nat.div_add_mod nx n; omega
  rw [h3, Nat.add_mul_mod_self_left, Nat.add_mod_right, Nat.mod_eq_of_lt i.2]

set_option maxRecDepth 100000 in
set_option maxHeartbeats 2000000 in
theorem turn_calls (w : World) (r : Nat) (v mv : Value) (L : List Sub) (nx : Nat) (may : List ByteArray) (h : Rnd w r v L nx) (hm : Slc strEnc 1 w mv may) (hnx : nx ≤ L.length) (hL : L.length ≤ 1000000)
    (hc : ∀ p ∈ L, 0 ≤ p.2 ∧ p.2 ≤ 4294967295) :
    CallsIn Fence.wide 6 Try.prog 11 #[.pointer (some ⟨r, 0, none⟩), mv] w fun e w' =>
      ((∀ i : Fin L.length, serv may L[i] = false) ∧ e = .returned (.tuple #[.string ⟨#[]⟩, .bool false]) ∧ Below w.heap.size w w') ∨
      (∃ (ini : List (Fin L.length)) (i : Fin L.length), ini ++ [i] <+: places L.length nx ∧ (∀ j ∈ ini, serv may L[j] = false) ∧ serv may L[i] = true ∧
        e = .returned (.tuple #[.string L[i].1, .bool true]) ∧ Rnd w' r v (L.set i (L[i].1, spent L[i].2)) (i + 1) ∧ Upd (RndS r v) w w') := by
  obtain ⟨am, capm, hmv, hmm⟩ := hm.len
  obtain ⟨ar, capr, hrv, hrm⟩ := h.slc.len
  subst hmv hrv
  have c2 := h.c2
  refine callsIn_of_wp_marks Try.func11 rfl trivial ?_ rfl
  simp only [Try.ntmps11, List.size_toArray, List.length_cons, List.length_nil, Nat.reduceAdd, Nat.reduceSub, Array.replicate_succ, Array.replicate_zero, List.push_toArray, List.append_toArray, List.nil_append, List.cons_append]
  have hW1 : Below w.heap.size w ((((w.alloc (.cells #[.pointer (some ⟨r, 0, none⟩)] 24)).alloc (.cells #[.slice am may.length capm] 26)).alloc (.cells #[.string ⟨#[]⟩] 9)).alloc (.cells #[.bool false] 4)) :=
    ((((Below.refl _ _).alloc (Nat.le_refl _) _).alloc (by simp) _).alloc (by simp; omega) _).alloc (by simp; omega) _
  have c2' := (hW1.cell (p := ⟨r, 2, none⟩) h.1.lt).trans c2
  gi_wp2_with (first | (refine ⟨trivial, ?_⟩; gi_at_call 22; refine (callsIn_wide.2 (there_ok _ _ _ c2')).mono ?_; rintro e w' ⟨rfl, rfl⟩) | (refine ⟨trivial, ?_⟩; gi_at_call 26; refine (callsIn_wide.2 (turn_any _ ⟨_, rfl⟩ _)).mono ?_; rintro e w' ⟨rfl, rfl⟩))
  obtain ⟨W0, hW0⟩ : ∃ W0, (((((w.alloc (Obj.cells #[.pointer (some ⟨r, 0, none⟩)] 24)).alloc (Obj.cells #[.slice am may.length capm] 26)).alloc (Obj.cells #[.string ⟨#[]⟩] 9)).alloc (Obj.cells #[.bool false] 4)).alloc (Obj.cells #[.pointer (some ⟨r, 0, none⟩)] 24)) = W0 := ⟨_, rfl⟩
  have hs0 : W0.heap.size = w.heap.size + 5 := by rw [← hW0]; simp
  have hB0 : Below w.heap.size w W0 := by rw [← hW0]; exact hW1.alloc (by simp; omega) _
  have b0 : Blk W0 w.heap.size [.pointer (some ⟨r, 0, none⟩)] := by rw [← hW0]; exact ((((Blk.new w [.pointer (some ⟨r, 0, none⟩)] _).alloc _).alloc _).alloc _).alloc _
  have b1 : Blk W0 (w.heap.size + 1) [.slice am may.length capm] := by rw [← hW0]; exact (((by have := Blk.new (w.alloc (Obj.cells #[.pointer (some ⟨r, 0, none⟩)] 24)) [.slice am may.length capm] 26; rwa [World.size_alloc] at this : Blk _ (w.heap.size + 1) _).alloc _).alloc _).alloc _
  have b2 : Blk W0 (w.heap.size + 1 + 1) [.string ⟨#[]⟩] := by rw [← hW0]; exact ((by have := Blk.new ((w.alloc (Obj.cells #[.pointer (some ⟨r, 0, none⟩)] 24)).alloc (Obj.cells #[.slice am may.length capm] 26)) [.string ⟨#[]⟩] 9; simpa using this : Blk _ (w.heap.size + 1 + 1) _).alloc _).alloc _
  have b3 : Blk W0 (w.heap.size + 1 + 1 + 1) [.bool false] := by rw [← hW0]; exact (by have := Blk.new (((w.alloc (Obj.cells #[.pointer (some ⟨r, 0, none⟩)] 24)).alloc (Obj.cells #[.slice am may.length capm] 26)).alloc (Obj.cells #[.string ⟨#[]⟩] 9)) [.bool false] 4; simpa using this : Blk _ (w.heap.size + 1 + 1 + 1) _).alloc _
  have b4 : Blk W0 (w.heap.size + 1 + 1 + 1 + 1) [.pointer (some ⟨r, 0, none⟩)] := by rw [← hW0]; have := Blk.new ((((w.alloc (Obj.cells #[.pointer (some ⟨r, 0, none⟩)] 24)).alloc (Obj.cells #[.slice am may.length capm] 26)).alloc (Obj.cells #[.string ⟨#[]⟩] 9)).alloc (Obj.cells #[.bool false] 4)) [.pointer (some ⟨r, 0, none⟩)] 24; simpa using this
  rw [hW0]
  clear hW0 hW1 c2' c2
  have hr0 := h.pure hB0
  have hrl := h.1.lt
  refine wpIn_rangeFunc_ownF rfl (by omega) (gf := 35) (lb := #[.pointer (some ⟨w.heap.size + 1 + 1 + 1 + 1, 0, none⟩)]) rfl trivial (enters_of Try.func35 (by kernel_rfl) rfl)
    (turn_stops (w.heap.size + 1 + 1 + 1 + 1) W0.heap.size r nx L.length ar capr hL hnx (by omega) (by omega) W0 (Nat.le_refl _) (b4.cell 0) hr0.c0 hr0.c1) belowK_t (belowK_b (Nat.le_refl _)) (Below.refl _ _) (fun _ => rfl)
    (fun pre W => (∀ y ∈ pre, serv may L[y] = false) ∧ Below W0.heap.size W0 W)
    (fun c pre W => c = .ret ∧ ∃ (ini : List (Fin L.length)) (last : Fin L.length), pre = ini ++ [last] ∧ (∀ y ∈ ini, serv may L[y] = false) ∧ serv may L[last] = true ∧
      W.cell? ⟨w.heap.size + 1 + 1, 0, none⟩ = some (.string L[last].1) ∧ W.cell? ⟨w.heap.size + 1 + 1 + 1, 0, none⟩ = some (.bool true) ∧
      Rnd W r (.slice ar L.length capr) (L.set last (L[last].1, spent L[last].2)) (last + 1) ∧ Upd (RndS r (.slice ar L.length capr)) w W)
    ?own1 ?own2 ⟨by simp, Below.refl _ _⟩
    (fun x => { tmps := #[Value.pointer (some { block := r, off := 0 }), Value.slice am may.length capm,
          Value.pointer (some { block := w.heap.size, off := 0 }),
          Value.pointer (some { block := w.heap.size + 1, off := 0 }),
          Value.pointer (some { block := w.heap.size + 1 + 1, off := 0 }),
          Value.pointer (some { block := w.heap.size + 1 + 1 + 1, off := 0 }), .int .i64 (x.1 : Int), undef,
          Value.pointer (some { block := r, off := 0 }), Value.bool true, Value.bool false,
          Value.pointer (some { block := r, off := 0 }),
          Value.func (Fn.func 35) #[] #[Value.pointer (some { block := w.heap.size + 1 + 1 + 1 + 1, off := 0 })], .int .i64 (x.1 : Int),
          undef, undef, undef, undef, undef, undef, undef, undef, undef, undef, undef, undef, undef, undef, undef,
          undef, undef, undef, undef, undef, undef, undef, undef, undef, undef, undef, undef, undef, undef, undef,
          undef, undef], defers := [] }) ?assign ?body ?done ?stop
  case own1 => exact fun s A B row hs hg hrow => ⟨hs.1, hs.2.grown hg hs.2.size (fun k e => (hrow k e).1)⟩
  case own2 =>
    rintro c s A B row ⟨rfl, ini, last, e1, e2, e3, e4, e5, e6, e7⟩ hg hrow
    have hrow' := fun r e => (hrow r e).2
    refine ⟨rfl, ini, last, e1, e2, e3, cell_kept e4 hg hrow', cell_kept e5 hg hrow', e6.kept hg hrow', e7.trans (Upd.grown (S := fun k => w.heap.size ≤ k) hg (fun k e => by have := (hrow k e).1; omega)) (fun i hi h2 => absurd hi (by omega))⟩
  case assign =>
    intro l x W K hK
    gi_wp2
    exact hK
  case body =>
    rintro l pre x W ⟨hp, hB⟩ _
    have hx := x.2
    obtain ⟨g, cap, hsh, hgr, hmax⟩ := h.shape x.2
    simp only [Value.slice.injEq, true_and] at hsh
    obtain ⟨rfl, rfl⟩ := hsh
    have hrw := hr0.pure hB
    obtain ⟨f0, f1, f2, ff⟩ := hrw.facts x.2
    have a0 := (b0.pure hB).cell 0
    have a1 := (b1.pure hB).cell 0
    have hmix : Try.prog.follows .mixedOrders = true := by kernel_rfl
    have hms : Slc strEnc 1 W.drew (.slice am may.length capm) may := (hm.pure hB0).pure hB.drew
    have hgo : ∀ W', KeepsOthers W W' → Below W0.heap.size W W' → serv may L[x] = false → ownPostK (Below W0.heap.size) (fun pre W => (∀ y ∈ pre, serv may L[y] = false) ∧ Below W0.heap.size W0 W) (fun c pre W => c = .ret ∧ ∃ (ini : List (Fin L.length)) (last : Fin L.length), pre = ini ++ [last] ∧ (∀ y ∈ ini, serv may L[y] = false) ∧ serv may L[last] = true ∧
      W.cell? ⟨w.heap.size + 1 + 1, 0, none⟩ = some (.string L[last].1) ∧ W.cell? ⟨w.heap.size + 1 + 1 + 1, 0, none⟩ = some (.bool true) ∧
      Rnd W r (.slice (some ⟨g, 0, none⟩) L.length capr) (L.set last (L[last].1, spent L[last].2)) (last + 1) ∧ Upd (RndS r (.slice (some ⟨g, 0, none⟩) L.length capr)) w W) (pre ++ [x]) W .normal { tmps := #[], defers := [] } W' := by
      intro W' h1 h2 h3
      refine ⟨h1, h2, fun y hy => ?_, hB.trans h2⟩
      rcases List.mem_append.1 hy with hy | hy
      · exact hp y hy
      · simp at hy; subst hy; exact h3
    have hcc := hc L[x.1] (List.getElem_mem _)
    by_cases hc0 : 0 < L[x.1].2
    · have hq : decide (0 < L[x.1].2) = true := by simpa using hc0
      cases hb : may.any (fun y => sameS L[x.1].1 y)
      · gi_wp2
        gi_region_with_o (refine ⟨trivial, ?_⟩; gi_at_call 27; refine (CallsIn.inRound l (callsIn_wide.2 (strContains_any _ _ _ _ hms))).mono ?_; rintro e w' ⟨rfl, rfl⟩)
        all_goals gi_wp2
        all_goals (exact hgo _ (KeepsOthers.drew _) (Below.refl _ _).drew (by simp [serv, hb]))
      · have hsv : serv may L[x] = true := by simp [serv, hb, hc0]
        have hgl : g < w.heap.size := h.2.1.lt rfl
        have hgr' : g ≠ r := hgr
        have hsz := hB.size
        have hspent : ∀ w2, (w2 = W.drew.setCell ⟨g, ↑x * 2 + 1, none⟩ (.int .u32 (spent L[x.1].2)) ∨ (w2 = W.drew ∧ spent L[x.1].2 = L[x.1].2)) → Rnd w2 r (.slice (some ⟨g, 0, none⟩) L.length capr) (L.set x.1 (L[x.1].1, spent L[x.1].2)) nx := by
          rintro w2 (rfl | ⟨rfl, hs⟩)
          · exact hrw.drew.set x.2 _
          · rw [hs]; have : L.set x.1 (L[x.1].1, L[x.1].2) = L := List.set_getElem_self x.2
            rw [this]; exact hrw.drew
        gi_wp2
        gi_cut [32] from 20 (fun s32 wc => s32 = .bool true ∧ wc = W.drew)
        case first =>
          gi_region_with_o (refine ⟨trivial, ?_⟩; gi_at_call 27; refine (CallsIn.inRound l (callsIn_wide.2 (strContains_any _ _ _ _ hms))).mono ?_; rintro e w' ⟨rfl, rfl⟩)
          all_goals (gi_wp2; gi_meet; first | exact ⟨rfl, rfl⟩ | exact ⟨by simp [hb], rfl⟩ | exact rfl)
        case rest =>
          obtain ⟨rfl, rfl⟩ := hcut
          have e2 : W.drew.cell? ⟨g, ↑x * 2 + 1, none⟩ = some (.int .u32 L[x.1].2) := f2
          gi_wp2_with (fail)
          refine ⟨trivial, ?_⟩
          refine (CallsIn.inRound l (callsIn_wide.2 (spend_any _ _ _ _ e2 (ff _) hc0 hcc.2))).mono ?_
          rintro e w2 ⟨rfl, hU, hor⟩
          have hr2 : Rnd w2 r (.slice (some ⟨g, 0, none⟩) L.length capr) (L.set x.1 (L[x.1].1, spent L[x.1].2)) nx := hspent w2 hor
          have d0 := hr2.c1
          have d1 := hr2.1.frozen 1
          obtain ⟨_, d2, _, _⟩ := hr2.facts (i := x.1) (by simp)
          have u0 := (b0.pure hB).drew.upd hU (by omega)
          have u2 := (b2.pure hB).drew.upd hU (by omega)
          have u3 := (b3.pure hB).drew.upd hU (by omega)
          have v0 := u0.cell 0
          have v2 := u2.cell 0
          have v3 := u3.cell 0
          have v2' := u2.frozen 0
          have v3' := u3.frozen 0
          simp only [List.getElem_set_self] at d2
          gi_wp2
          have hko : KeepsOthers W w2 := by
            rcases hor with rfl | ⟨rfl, _⟩
            · exact (KeepsOthers.drew W).trans (KeepsOthers.setCell _ _ _)
            · exact KeepsOthers.drew W
          refine ⟨((hko.trans (KeepsOthers.setCell _ _ _)).trans (KeepsOthers.setCell _ _ _)).trans (KeepsOthers.setCell _ _ _), rfl, pre, x, rfl, hp, hsv, ?_, ?_, ?_, ?_⟩
          · exact (((u2.other ⟨r, 1, none⟩ _ (by simp; omega)).set 0 (.string L[x.1].1)).other ⟨w.heap.size + 1 + 1 + 1, 0, none⟩ _ (by simp)).cell 0
          · exact (((u3.other ⟨r, 1, none⟩ _ (by simp; omega)).other ⟨w.heap.size + 1 + 1, 0, none⟩ _ (by simp)).set 0 (.bool true)).cell 0
          · refine ⟨((hr2.1.set 1 (.int .i64 ((x.1 + 1 : Nat) : Int))).other _ _ (by simp; omega)).other _ _ (by simp; omega), ?_, by simpa [Value.ownBlock] using hgr'⟩
            refine ((hr2.2.1.other _ _ ?_).other _ _ ?_).other _ _ ?_ <;> (simp only [Value.ownBlock, Option.some.injEq]; intro k hk; subst hk; first | exact hgr' | omega)
          · have k1 : Upd (RndS r (.slice (some ⟨g, 0, none⟩) L.length capr)) w W := Upd.of_below (hB0.trans (hB.mono hB0.size))
            have k2 : Upd (RndS r (.slice (some ⟨g, 0, none⟩) L.length capr)) w w2 := k1.drew.trans hU (by intro i hi _; subst hi; exact .inr rfl)
            have k3 := hU.size
            refine ((k2.trans (Upd.set (S := (· = r)) (p := ⟨r, 1, none⟩) rfl _) ?_).trans (Upd.set (S := (· = w.heap.size + 1 + 1)) (p := ⟨w.heap.size + 1 + 1, 0, none⟩) rfl _) ?_).trans (Upd.set (S := (· = w.heap.size + 1 + 1 + 1)) (p := ⟨w.heap.size + 1 + 1 + 1, 0, none⟩) rfl _) ?_
            · intro i hi _; exact .inl hi
            · intro i hi h2; omega
            · intro i hi h2; omega
    · have hq : decide (0 < L[x.1].2) = false := by simpa using hc0
      gi_wp2
      gi_region_with_o (refine ⟨trivial, ?_⟩)
      all_goals gi_wp2
      all_goals (exact hgo _ (KeepsOthers.drew _) (Below.refl _ _).drew (by simp [serv]; intro h; omega))
  case done =>
    rintro D xs W hD rfl ⟨hp, hB⟩ hK
    have k2 := (b2.pure hB)
    have k3 := (b3.pure hB)
    have c2 := k2.cell 0
    have c3 := k3.cell 0
    have f2 := k2.frozen 0
    have f3 := k3.frozen 0
    gi_wp2
    have hK' := ((KeepsOthers.setCell W ⟨w.heap.size + 1 + 1, 0, none⟩ (.string ⟨#[]⟩)).trans (KeepsOthers.setCell _ ⟨w.heap.size + 1 + 1 + 1, 0, none⟩ (.bool false))).same D _ hK rfl
    refine ⟨by simp, .inl ⟨_, _, rfl, run_takeDeferred hK', ?_⟩⟩
    have g2 := (k2.set 0 (.string ⟨#[]⟩)).other ⟨w.heap.size + 1 + 1 + 1, 0, none⟩ (.bool false) (by simp)
    have g3 := (k3.other ⟨w.heap.size + 1 + 1, 0, none⟩ (.string ⟨#[]⟩) (by simp)).set 0 (.bool false)
    have hgp := grownBy_putObj' ((W.setCell { block := w.heap.size + 1 + 1, off := 0 } (Value.string { data := #[] })).setCell { block := w.heap.size + 1 + 1 + 1, off := 0 } (Value.bool false)) D (.deferred none)
    have hrr : ∀ r, (some D : Option Nat) = some r → ∃ o : Obj, ((W.setCell { block := w.heap.size + 1 + 1, off := 0 } (Value.string { data := #[] })).setCell { block := w.heap.size + 1 + 1 + 1, off := 0 } (Value.bool false)).heap[r]? = some o ∧ o.isCells = false := fun r e => by cases e; exact ⟨_, hK', rfl⟩
    have c2' := (g2.kept hgp hrr).cell 0
    have c3' := (g3.kept hgp hrr).cell 0
    refine ⟨.tuple #[.string ⟨#[]⟩, .bool false], ?_, .inl ⟨fun i => hp i (mem_places i), rfl, ?_⟩⟩
    · simp at c2' c3'
      simp [results, Try.f11, go_sem, c2', c3']
    · have hBW : Below w.heap.size w W := hB0.trans (hB.mono hB0.size)
      exact ((hBW.setCell (p := ⟨w.heap.size + 1 + 1, 0, none⟩) (by simp; omega) _).setCell (p := ⟨w.heap.size + 1 + 1 + 1, 0, none⟩) (by simp; omega) _).grown hgp (by have := hBW.size; simp; omega) (fun k e => by cases e; omega)
  case stop =>
    rintro D c pre W hD hpre ⟨rfl, ini, last, rfl, hp, hsv, hc4, hc5, hrr, hU⟩ hK
    gi_wp2
    refine ⟨by simp, .inl ⟨_, _, rfl, run_takeDeferred hK, ?_⟩⟩
    have hgp := grownBy_putObj' W D (.deferred none)
    have hrow : ∀ r, (some D : Option Nat) = some r → ∃ o : Obj, W.heap[r]? = some o ∧ o.isCells = false := fun r e => by cases e; exact ⟨_, hK, rfl⟩
    have c2' := cell_kept hc4 hgp hrow
    have c3' := cell_kept hc5 hgp hrow
    refine ⟨.tuple #[.string L[last].1, .bool true], ?_, .inr ⟨ini, last, hpre, hp, hsv, rfl, hrr.kept hgp hrow, hU.trans (Upd.grown (S := fun k => w.heap.size ≤ k) hgp (fun k e => by cases e; omega)) (fun i hi h2 => absurd hi (by omega))⟩⟩
    simp [results, Try.f11, go_sem, c2', c3']

theorem turn_serves (w : World) (r : Nat) (v mv : Value) (L : List Sub) (nx : Nat) (may : List ByteArray) (h : Rnd w r v L nx) (hm : Slc strEnc 1 w mv may) (hnx : nx ≤ L.length) (hL : L.length ≤ 1000000)
    (hc : ∀ p ∈ L, 0 ≤ p.2 ∧ p.2 ≤ 4294967295) :
    Calls Try.prog 11 #[.pointer (some ⟨r, 0, none⟩), mv] w fun e w' =>
      ((∀ i : Fin L.length, serv may L[i] = false) ∧ e = .returned (.tuple #[.string ⟨#[]⟩, .bool false]) ∧ Below w.heap.size w w') ∨
      (∃ (ini : List (Fin L.length)) (i : Fin L.length), ini ++ [i] <+: places L.length nx ∧ (∀ j ∈ ini, serv may L[j] = false) ∧ serv may L[i] = true ∧
        e = .returned (.tuple #[.string L[i].1, .bool true]) ∧ Rnd w' r v (L.set i (L[i].1, spent L[i].2)) (i + 1) ∧ Upd (RndS r v) w w') :=
  callsIn_wide.1 (turn_calls w r v mv L nx may h hm hnx hL hc)
#print axioms turn_serves
end Go.Proofs.Ytelebabegbkdnaa
