/- slices.Delete of one element at []api.Assoc. Conditions: the slice is the call's own. Written by gen_delete.py. -/
import Derived.Test.YtcelpincmpjhkaaGC
import Derived.Test.YtcelpincmpjhkaaGA
namespace Go.Proofs.Ytcelpincmpjhkaa
set_option linter.unusedSimpArgs false
set_option linter.unusedVariables false
open Go.RowKit

set_option maxHeartbeats 4000000 in
set_option maxRecDepth 100000 in
theorem asc_delete_step {base : Nat} (w : World) (g cap i j : Nat) (hij1 : j = i + 1) (L : List Asc) (h : Own base 57 5 ascEnc w (.slice (some ⟨g, 0, none⟩) L.length cap) L) (hi : i < L.length) (hL : L.length ≤ 1000000) :
    Calls Try.prog 108 #[.slice (some ⟨g, 0, none⟩) L.length cap, .int .i64 i, .int .i64 j] w fun e w' =>
      e = .returned (.slice (some ⟨g, 0, none⟩) (L.length - 1) cap) ∧ Own base 57 5 ascEnc w' (.slice (some ⟨g, 0, none⟩) (L.length - 1) cap) (L.eraseIdx i) ∧ Upd (· = g) w w' := by
  have mixed : Try.prog.follows .mixedOrders = true := by kernel_rfl
  obtain ⟨i0, hi0, hz0, hz1, hz2⟩ := info_parts info_asc
  have hcap : L.length ≤ cap ∧ cap ≤ 9223372036854775807 := by
    rcases h.cases with ⟨h', _⟩ | ⟨g', cap', h', _, _, k1, k2⟩
    · simp at h'
    · simp only [Value.slice.injEq] at h'; unfold maxLen at k2; omega
  have hcell : ∀ t u, (L.flatMap ascEnc)[t]? = some u → w.cell? ⟨g, 0 + t, none⟩ = some u := fun t u hu => by
    have := World.ownsRow.cells h (g := g) rfl t u hu
    have e : (⟨g, 0, none⟩ : Addr).add t = ⟨g, 0 + t, none⟩ := by unfold Addr.add; split <;> simp_all
    rw [← e]; exact this
  have hfr : ∀ t, w.frozen? ⟨g, t, none⟩ = false := fun t => h.frozen t
  obtain ⟨news, hnews⟩ : ∃ news, news = (L.drop j).flatMap ascEnc := ⟨_, rfl⟩
  have hlen : news.length = (L.length - j) * 5 := by rw [hnews, flat_len ascEnc_len]; simp
  have hget : ∀ t, news[t]? = (L.flatMap ascEnc)[j * 5 + t]? := fun t => by rw [hnews, flat_drop ascEnc_len, List.getElem?_drop]
  obtain ⟨A, hA, hsrc⟩ : ∃ A : Addr, (if cap = j then some (⟨g, 0, none⟩ : Addr) else some ⟨g, j * 5, none⟩) = some A ∧ Hid (∀ t u, news[t]? = some u → w.drew.cell? (A.add t) = some u) := by
    by_cases hc : cap = j
    · refine ⟨⟨g, 0, none⟩, by simp [hc], Lib.hid (fun t u hu => ?_)⟩
      have h0 : news.length = 0 := by rw [hlen]; omega
      rw [List.length_eq_zero_iff.1 h0] at hu
      simp at hu
    · refine ⟨⟨g, j * 5, none⟩, by simp [hc], Lib.hid (fun t u hu => ?_)⟩
      rw [hget t] at hu
      have := hcell _ _ hu
      have e : (⟨g, j * 5, none⟩ : Addr).add t = ⟨g, 0 + (j * 5 + t), none⟩ := by unfold Addr.add; split <;> simp_all
      rw [e]; exact this
  have s1 := Lib.hid hlen
  have s2 : Hid (∀ u ∈ news, u.oneCell' = true) := Lib.hid (by
    intro u hu
    rw [hnews] at hu
    obtain ⟨x, _, hx⟩ := List.mem_flatMap.1 hu
    exact ascEnc_one x u hx)
  have hfl : (L.flatMap ascEnc).length = L.length * 5 := flat_len ascEnc_len L
  have s3 : Hid (∀ t, t < news.length → (w.drew.cell? ⟨g, 0 + i * 5 + t, none⟩).isSome = true ∧ w.drew.frozen? ⟨g, 0 + i * 5 + t, none⟩ = false) := Lib.hid (by
    intro t ht
    rw [hlen] at ht
    have hlt : i * 5 + t < (L.flatMap ascEnc).length := by rw [hfl]; omega
    refine ⟨?_, hfr _⟩
    show (w.cell? _).isSome = true
    rw [Nat.add_assoc, hcell _ _ (List.getElem?_eq_getElem hlt)]; rfl)
  obtain ⟨W1, hW1⟩ : ∃ W1, W1 = w.drew.setCells g (0 + i * 5) news := ⟨_, rfl⟩
  have hown1 : W1.ownsRow base 57 5 (.slice (some ⟨g, 0, none⟩) L.length cap) L.length (splice (L.flatMap ascEnc) (i * 5) news) := by
    have := stored_many news (i * 5) w.drew _ h
    rw [hW1]; simpa using this
  have hsl : (splice (L.flatMap ascEnc) (i * 5) news).length = L.length * 5 := by rw [splice_len, hfl]
  have hcl : ∀ ty, (Builtin.clear_ #[23] ty #[.slice (some ⟨g, (i + (L.length - j)) * 5, none⟩) (L.length - (i + (L.length - j))) (cap - (i + (L.length - j)))]).run Try.prog W1 = .ok (.tuple #[]) (W1.setCells g ((i + (L.length - j)) * 5) [.int .u64 0, .int .u32 0, .string ⟨#[]⟩, .string ⟨#[]⟩, .bool false]) := fun ty => by
    refine run_clear_one W1 _ 57 ty (.agg #[.int .u64 0, .int .u32 0, .string ⟨#[]⟩, .string ⟨#[]⟩, .bool false]) _ Try.underlying23 (fun w => by kernel_rfl) rfl (by simp [Value.oneCell']) g ((i + (L.length - j)) * 5) _ _ (by omega) (fun t ht => ?_) (fun t ht => ?_)
    · simp only [List.length_cons, List.length_nil] at ht
      have hlt : (i + (L.length - j)) * 5 + t < (splice (L.flatMap ascEnc) (i * 5) news).length := by rw [hsl]; omega
      have := World.ownsRow.cells hown1 (g := g) rfl _ _ (List.getElem?_eq_getElem hlt)
      have e : (⟨g, 0, none⟩ : Addr).add ((i + (L.length - j)) * 5 + t) = ⟨g, (i + (L.length - j)) * 5 + t, none⟩ := by unfold Addr.add; split <;> simp_all
      rw [← e, this]; rfl
    · rcases hown1.2 with ⟨h', _⟩ | ⟨g', cap', cur, h', hb', hg', _⟩
      · simp at h'
      · simp only [Value.slice.injEq, Option.some.injEq, Addr.mk.injEq, and_true, true_and] at h'
        obtain ⟨rfl, _⟩ := h'
        simp [World.frozen?, hg']
  have hW := Lib.hid hW1
  have hown1' := Lib.hid hown1
  have hnews' := Lib.hid hnews
  clear hW1 hown1 hget hnews hlen hcell hfr h hsl hfl
  obtain ⟨hc1, hc2⟩ := hcap
  have hjl : j ≤ L.length := by omega
  have hil : j ≤ cap := by omega
  have hij : i < j := by omega
  have hne : ¬ i = j := by omega
  have hij1' := Lib.hid hij1
  clear hij1
  have hic : i ≤ cap := by omega
  go_enter Try.func108, Try.ntmps108
  go_wp2_with fail
  go_region_law (refine step_append_room rfl (.tmp 22) (.tmp 25) 23 rfl 57 i0 5 Try.underlying23 hi0 hz1 g 0 i cap (by simp [Act.eval, Act.put]) A (L.length - j) (cap - j) news (by simp [Act.eval, Act.put]) s1.out hsrc.out s2.out (by omega) s3.out ?_; rw [← hW.out])
  go_wp2
  go_ret
  have e1 : i + (L.length - j) = L.length - 1 := by have := hij1'.out; omega
  rw [e1]
  refine ⟨rfl, ?_, ?_⟩
  · have h1 := cut_own (stored_many [.int .u64 0, .int .u32 0, .string ⟨#[]⟩, .string ⟨#[]⟩, .bool false] ((L.length - 1) * 5) W1 _ hown1'.out) (n' := L.length - 1) (by omega)
    rw [hnews'.out] at h1
    have hj := hij1'.out
    rw [hj] at h1
    rw [splice_out ascEnc_len L i hi _ rfl] at h1
    unfold Own
    rw [List.length_eraseIdx_of_lt hi]
    exact h1
  · have hu : Upd (· = g) w W1 := by rw [hW.out]; exact (Upd.drew (Upd.refl (· = g) w)).trans (set_cells_upd (S := (· = g)) rfl _ _ _) (fun _ h _ => h)
    exact hu.trans (set_cells_upd (S := (· = g)) rfl _ _ _) (fun _ h _ => h)

theorem asc_delete_one {base : Nat} (w : World) (g cap i : Nat) (L : List Asc) (h : Own base 57 5 ascEnc w (.slice (some ⟨g, 0, none⟩) L.length cap) L) (hi : i < L.length) (hL : L.length ≤ 1000000) :
    Calls Try.prog 108 #[.slice (some ⟨g, 0, none⟩) L.length cap, .int .i64 i, .int .i64 ((i : Int) + 1)] w fun e w' =>
      e = .returned (.slice (some ⟨g, 0, none⟩) (L.length - 1) cap) ∧ Own base 57 5 ascEnc w' (.slice (some ⟨g, 0, none⟩) (L.length - 1) cap) (L.eraseIdx i) ∧ Upd (· = g) w w' := by
  have := asc_delete_step w g cap i (i + 1) rfl L h hi hL
  rwa [Int.natCast_add] at this
end Go.Proofs.Ytcelpincmpjhkaa
