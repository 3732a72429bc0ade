/- A whole row of seven cells stored into a slice that a call owns. Conditions: none. (Texts joined; the heads of the others stand below.) -/
import Derived.Test.YtcelpincmpjhkaaHD
import Derived.Deep.Cut
import Derived.Test.YtcelpincmpjhkaaGA

/- Chapter 19, the document's side: spoilt. Conditions: none. Written by gen_brDg.py. -/
namespace Go.Proofs.Ytcelpincmpjhkaa
set_option linter.unusedSimpArgs false
set_option linter.unusedVariables false
open Go.RowKit

set_option maxRecDepth 100000 in
set_option maxHeartbeats 3200000 in
theorem dspoilt_any (w : World) (b : Brn) :
    Calls Try.prog 71 #[.agg #[.int .u32 b.x.1, .string b.x.2.1, .string b.x.2.2, .int .u8 b.st, .int .u8 b.why, .int .u32 b.tm, .int .u32 b.lf]] w fun e w' => e = .returned (brVal (b.spoil 1)) ∧ Below w.heap.size w w' := by
  obtain ⟨⟨xf, xg, xb⟩, st, why, tm, lf⟩ := b
  simp only
  have hT0 : Below w.heap.size w ((w.alloc (.cells #[.int .u32 xf, .string xg, .string xb, .int .u8 st, .int .u8 why, .int .u32 tm, .int .u32 lf] 44)).alloc (.cells #[.int .u32 0, .string ⟨#[]⟩, .string ⟨#[]⟩, .int .u8 0, .int .u8 0, .int .u32 0, .int .u32 0] 44)) := ((Below.refl _ _).alloc (Nat.le_refl _) _).alloc (by simp) _
  have b0 : Blk ((w.alloc (.cells #[.int .u32 xf, .string xg, .string xb, .int .u8 st, .int .u8 why, .int .u32 tm, .int .u32 lf] 44)).alloc (.cells #[.int .u32 0, .string ⟨#[]⟩, .string ⟨#[]⟩, .int .u8 0, .int .u8 0, .int .u32 0, .int .u32 0] 44)) w.heap.size [.int .u32 xf, .string xg, .string xb, .int .u8 st, .int .u8 why, .int .u32 tm, .int .u32 lf] := (Blk.new w [.int .u32 xf, .string xg, .string xb, .int .u8 st, .int .u8 why, .int .u32 tm, .int .u32 lf] 44).alloc (.cells #[.int .u32 0, .string ⟨#[]⟩, .string ⟨#[]⟩, .int .u8 0, .int .u8 0, .int .u32 0, .int .u32 0] 44)
  have r0 : Blk ((w.alloc (.cells #[.int .u32 xf, .string xg, .string xb, .int .u8 st, .int .u8 why, .int .u32 tm, .int .u32 lf] 44)).alloc (.cells #[.int .u32 0, .string ⟨#[]⟩, .string ⟨#[]⟩, .int .u8 0, .int .u8 0, .int .u32 0, .int .u32 0] 44)) (w.heap.size + 1) [.int .u32 0, .string ⟨#[]⟩, .string ⟨#[]⟩, .int .u8 0, .int .u8 0, .int .u32 0, .int .u32 0] := Blk.newAt2 (w.alloc (.cells #[.int .u32 xf, .string xg, .string xb, .int .u8 st, .int .u8 why, .int .u32 tm, .int .u32 lf] 44)) [.int .u32 0, .string ⟨#[]⟩, .string ⟨#[]⟩, .int .u8 0, .int .u8 0, .int .u32 0, .int .u32 0] 44 (w.heap.size + 1) (by simp)
  obtain ⟨W0, hW0⟩ : ∃ W0, W0 = ((w.alloc (.cells #[.int .u32 xf, .string xg, .string xb, .int .u8 st, .int .u8 why, .int .u32 tm, .int .u32 lf] 44)).alloc (.cells #[.int .u32 0, .string ⟨#[]⟩, .string ⟨#[]⟩, .int .u8 0, .int .u8 0, .int .u32 0, .int .u32 0] 44)) := ⟨_, rfl⟩
  rw [← hW0] at hT0 b0 r0
  have f4 := b0.frozen 4; have f6 := b0.frozen 6; have g0 := r0.frozen 0; have g1 := r0.frozen 1; have g2 := r0.frozen 2; have g3 := r0.frozen 3; have g4 := r0.frozen 4; have g5 := r0.frozen 5; have g6 := r0.frozen 6
  have c0 := b0.at 0 rfl; have d0 := r0.at 0 rfl
  have c1 := b0.at 1 rfl; have d1 := r0.at 1 rfl
  have c2 := b0.at 2 rfl; have d2 := r0.at 2 rfl
  have c3 := b0.at 3 rfl; have d3 := r0.at 3 rfl
  have c4 := b0.at 4 rfl; have d4 := r0.at 4 rfl
  have c5 := b0.at 5 rfl; have d5 := r0.at 5 rfl
  have c6 := b0.at 6 rfl; have d6 := r0.at 6 rfl
  by_cases hw : why = 0
  · have hwb : (why == 0) = true := by rw [hw]; rfl
    have hs : Hid ((⟨(xf, xg, xb), st, why, tm, lf⟩ : Brn).spoil 1 = ⟨(xf, xg, xb), st, 1, tm, 0⟩) := Lib.hid (by unfold Brn.spoil; simp [hw])
    have b1 := ((b0.set 4 (.int .u8 1)).set 6 (.int .u32 0))
    have e0 := b1.at 0 rfl
    have e1 := b1.at 1 rfl
    have e2 := b1.at 2 rfl
    have e3 := b1.at 3 rfl
    have e4 := b1.at 4 rfl
    have e5 := b1.at 5 rfl
    have e6 := b1.at 6 rfl
    have r1 := (((((((((r0.other ⟨w.heap.size, 4, none⟩ (.int .u8 1) (by simp only; omega)).other ⟨w.heap.size, 6, none⟩ (.int .u32 0) (by simp only; omega)).set 0 (.int .u32 xf)).set 1 (.string xg)).set 2 (.string xb)).set 3 (.int .u8 st)).set 4 (.int .u8 1)).set 5 (.int .u32 tm)).set 6 (.int .u32 0))
    have k0 := r1.at 0 rfl
    have k1 := r1.at 1 rfl
    have k2 := r1.at 2 rfl
    have k3 := r1.at 3 rfl
    have k4 := r1.at 4 rfl
    have k5 := r1.at 5 rfl
    have k6 := r1.at 6 rfl
    clear hw
    go_enter Try.func71, Try.ntmps71
    go_upto_region 1 with fail
    rw [← hW0]
    clear hW0
    go_wp2
    refine bodyPost_ret (by simp [results, Try.results71, go_sem, k0, k1, k2, k3, k4, k5, k6]; rfl) rfl ?_
    exact ⟨by rw [hs.out], ((Upd.of_below hT0).trans ((((((((((Upd.refl (fun k => w.heap.size ≤ k) W0).trans (Upd.set (S := fun k => w.heap.size ≤ k) (p := ⟨w.heap.size, 4, none⟩) (by simp only; omega) (.int .u8 1)) (fun _ h _ => h)).trans (Upd.set (S := fun k => w.heap.size ≤ k) (p := ⟨w.heap.size, 6, none⟩) (by simp only; omega) (.int .u32 0)) (fun _ h _ => h)).trans (Upd.set (S := fun k => w.heap.size ≤ k) (p := ⟨w.heap.size + 1, 0, none⟩) (by simp only; omega) (.int .u32 xf)) (fun _ h _ => h)).trans (Upd.set (S := fun k => w.heap.size ≤ k) (p := ⟨w.heap.size + 1, 1, none⟩) (by simp only; omega) (.string xg)) (fun _ h _ => h)).trans (Upd.set (S := fun k => w.heap.size ≤ k) (p := ⟨w.heap.size + 1, 2, none⟩) (by simp only; omega) (.string xb)) (fun _ h _ => h)).trans (Upd.set (S := fun k => w.heap.size ≤ k) (p := ⟨w.heap.size + 1, 3, none⟩) (by simp only; omega) (.int .u8 st)) (fun _ h _ => h)).trans (Upd.set (S := fun k => w.heap.size ≤ k) (p := ⟨w.heap.size + 1, 4, none⟩) (by simp only; omega) (.int .u8 1)) (fun _ h _ => h)).trans (Upd.set (S := fun k => w.heap.size ≤ k) (p := ⟨w.heap.size + 1, 5, none⟩) (by simp only; omega) (.int .u32 tm)) (fun _ h _ => h)).trans (Upd.set (S := fun k => w.heap.size ≤ k) (p := ⟨w.heap.size + 1, 6, none⟩) (by simp only; omega) (.int .u32 0)) (fun _ h _ => h)) (fun _ h _ => h)).below (Nat.le_refl _) (fun k h => h)⟩
  · have hwb : (why == 0) = false := beq_eq_false_iff_ne.2 hw
    have hs : Hid ((⟨(xf, xg, xb), st, why, tm, lf⟩ : Brn).spoil 1 = ⟨(xf, xg, xb), st, why, tm, 0⟩) := Lib.hid (by unfold Brn.spoil; simp [hw])
    have b1 := (b0.set 6 (.int .u32 0))
    have e0 := b1.at 0 rfl
    have e1 := b1.at 1 rfl
    have e2 := b1.at 2 rfl
    have e3 := b1.at 3 rfl
    have e4 := b1.at 4 rfl
    have e5 := b1.at 5 rfl
    have e6 := b1.at 6 rfl
    have r1 := ((((((((r0.other ⟨w.heap.size, 6, none⟩ (.int .u32 0) (by simp only; omega)).set 0 (.int .u32 xf)).set 1 (.string xg)).set 2 (.string xb)).set 3 (.int .u8 st)).set 4 (.int .u8 why)).set 5 (.int .u32 tm)).set 6 (.int .u32 0))
    have k0 := r1.at 0 rfl
    have k1 := r1.at 1 rfl
    have k2 := r1.at 2 rfl
    have k3 := r1.at 3 rfl
    have k4 := r1.at 4 rfl
    have k5 := r1.at 5 rfl
    have k6 := r1.at 6 rfl
    clear hw
    go_enter Try.func71, Try.ntmps71
    go_upto_region 1 with fail
    rw [← hW0]
    clear hW0
    go_wp2
    refine bodyPost_ret (by simp [results, Try.results71, go_sem, k0, k1, k2, k3, k4, k5, k6]; rfl) rfl ?_
    exact ⟨by rw [hs.out], ((Upd.of_below hT0).trans (((((((((Upd.refl (fun k => w.heap.size ≤ k) W0).trans (Upd.set (S := fun k => w.heap.size ≤ k) (p := ⟨w.heap.size, 6, none⟩) (by simp only; omega) (.int .u32 0)) (fun _ h _ => h)).trans (Upd.set (S := fun k => w.heap.size ≤ k) (p := ⟨w.heap.size + 1, 0, none⟩) (by simp only; omega) (.int .u32 xf)) (fun _ h _ => h)).trans (Upd.set (S := fun k => w.heap.size ≤ k) (p := ⟨w.heap.size + 1, 1, none⟩) (by simp only; omega) (.string xg)) (fun _ h _ => h)).trans (Upd.set (S := fun k => w.heap.size ≤ k) (p := ⟨w.heap.size + 1, 2, none⟩) (by simp only; omega) (.string xb)) (fun _ h _ => h)).trans (Upd.set (S := fun k => w.heap.size ≤ k) (p := ⟨w.heap.size + 1, 3, none⟩) (by simp only; omega) (.int .u8 st)) (fun _ h _ => h)).trans (Upd.set (S := fun k => w.heap.size ≤ k) (p := ⟨w.heap.size + 1, 4, none⟩) (by simp only; omega) (.int .u8 why)) (fun _ h _ => h)).trans (Upd.set (S := fun k => w.heap.size ≤ k) (p := ⟨w.heap.size + 1, 5, none⟩) (by simp only; omega) (.int .u32 tm)) (fun _ h _ => h)).trans (Upd.set (S := fun k => w.heap.size ≤ k) (p := ⟨w.heap.size + 1, 6, none⟩) (by simp only; omega) (.int .u32 0)) (fun _ h _ => h)) (fun _ h _ => h)).below (Nat.le_refl _) (fun k h => h)⟩
end Go.Proofs.Ytcelpincmpjhkaa

/- A whole row of seven cells stored into a slice that a call owns. Conditions: none. -/
namespace Go.Proofs.Ytcelpincmpjhkaa
set_option linter.unusedSimpArgs false
set_option linter.unusedVariables false
open Go.RowKit
theorem len7 {l : List Value} (h : l.length = 7) : ∃ a0 a1 a2 a3 a4 a5 a6, l = [a0, a1, a2, a3, a4, a5, a6] := by
  match l, h with
  | [a0, a1, a2, a3, a4, a5, a6], _ => exact ⟨_, _, _, _, _, _, _, rfl⟩
theorem flat_set7 {α : Type} {enc : α → List Value} (hm : ∀ x, (enc x).length = 7) (x' : α) (v0 v1 v2 v3 v4 v5 v6 : Value) (hx : enc x' = [v0, v1, v2, v3, v4, v5, v6]) :
    ∀ (L : List α) (i : Nat), i < L.length → (((((((L.flatMap enc).set (i * 7) v0).set (i * 7 + 1) v1).set (i * 7 + 2) v2).set (i * 7 + 3) v3).set (i * 7 + 4) v4).set (i * 7 + 5) v5).set (i * 7 + 6) v6 = (L.set i x').flatMap enc
  | [], i, h => absurd h (by simp)
  | x :: L, 0, _ => by
    obtain ⟨a0, a1, a2, a3, a4, a5, a6, e⟩ := len7 (hm x)
    simp [List.flatMap_cons, e, hx]
  | x :: L, i + 1, h => by
    have ih := flat_set7 hm x' v0 v1 v2 v3 v4 v5 v6 hx L i (by simpa using h)
    simp only [List.set_cons_succ, List.flatMap_cons]
    rw [← ih]
    have hr : ∀ (l : List Value) (j : Nat) (v : Value), (enc x ++ l).set ((i + 1) * 7 + j) v = enc x ++ l.set (i * 7 + j) v := by
      intro l j v
      rw [List.set_append_right _ _ (by rw [hm]; omega), hm]
      congr 2
      omega
    have h0 := hr (L.flatMap enc) 0 v0
    simp only [Nat.add_zero] at h0
    rw [h0, hr, hr, hr, hr, hr, hr]
theorem Own.row7 {α : Type} {base : Nat} {e : TypeId} {enc : α → List Value} (hm : ∀ x, (enc x).length = 7) {w : World} {L : List α} {g n cap : Nat} (h : Own base e 7 enc w (.slice (some ⟨g, 0, none⟩) n cap) L) (i : Nat) (hi : i < L.length) (x' : α) (v0 v1 v2 v3 v4 v5 v6 : Value)
    (hx : enc x' = [v0, v1, v2, v3, v4, v5, v6]) :
    Own base e 7 enc (((((((w.setCell ⟨g, i * 7, none⟩ v0).setCell ⟨g, i * 7 + 1, none⟩ v1).setCell ⟨g, i * 7 + 2, none⟩ v2).setCell ⟨g, i * 7 + 3, none⟩ v3).setCell ⟨g, i * 7 + 4, none⟩ v4).setCell ⟨g, i * 7 + 5, none⟩ v5).setCell ⟨g, i * 7 + 6, none⟩ v6) (.slice (some ⟨g, 0, none⟩) n cap) (L.set i x') := by
  have hn : n = L.length := by
    rcases h.2 with ⟨h', _⟩ | ⟨_, _, _, h', _⟩
    · simp at h'
    · simp only [Value.slice.injEq] at h'; exact h'.2.1
  subst hn
  have s0 := (World.ownsRow.stored h (i * 7) v0).1
  have s1 := (World.ownsRow.stored s0 (i * 7 + 1) v1).1
  have s2 := (World.ownsRow.stored s1 (i * 7 + 2) v2).1
  have s3 := (World.ownsRow.stored s2 (i * 7 + 3) v3).1
  have s4 := (World.ownsRow.stored s3 (i * 7 + 4) v4).1
  have s5 := (World.ownsRow.stored s4 (i * 7 + 5) v5).1
  have s6 := (World.ownsRow.stored s5 (i * 7 + 6) v6).1
  unfold Own
  rw [List.length_set, ← flat_set7 hm x' v0 v1 v2 v3 v4 v5 v6 hx L i hi]
  exact s6
end Go.Proofs.Ytcelpincmpjhkaa
