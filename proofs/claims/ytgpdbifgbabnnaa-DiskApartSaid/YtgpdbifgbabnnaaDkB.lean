/- Package disk: may, act. Conditions: what the handed closure does is given. -/
import Derived.Test.YtgpdbifgbabnnaaDkA
import Derived.Test.YtgpdbifgbabnnaaRegH
import Derived.Test.YtgpdbifgbabnnaaBlkAt
namespace Go.Proofs.Ytgpdbifgbabnnaa
open Go.RowKit Go.Maps
set_option linter.unusedVariables false
set_option linter.unusedSimpArgs false

theorem mayN_byte {x : ByteArray} {k : Nat} (hk : k < x.size) (h : MayN x) : okB x[k] := h.2.2 _ (by rw [ByteArray.toList_eq]; exact Array.getElem_mem_toList (xs := x.data) hk)

set_option maxRecDepth 100000 in
set_option maxHeartbeats 1600000 in
theorem may_any (w : World) (x : ByteArray) :
    Calls Try.prog 46 #[.string x] w fun e w' => e = .returned (.bool (decide (MayN x))) ∧ w = w' := by
  by_cases h0 : x.size = 0
  · have e0 := empty_yes h0
    have hn : decide (MayN x) = false := decide_eq_false (fun h => by have := h.1; omega)
    rw [hn]; clear hn
    go_enter Try.func46, Try.ntmps46
    go_wp2
    go_ret
    exact ⟨rfl, rfl⟩
  · have e0 := empty_no (s := x) (by omega)
    by_cases h1 : 40 < x.size
    · have hn : decide (MayN x) = false := decide_eq_false (fun h => by have := h.2.1; omega)
      rw [hn]; clear hn
      go_enter Try.func46, Try.ntmps46
      go_wp2
      go_ret
      exact ⟨rfl, rfl⟩
    · obtain ⟨r, hr⟩ : ∃ r, r = decide (MayN x) := ⟨_, rfl⟩
      rw [← hr]
      have hr' := Lib.hid hr; clear hr
      go_enter Try.func46, Try.ntmps46
      go_wp2
      go_loop [3, 13] (fun s3 s13 => ∃ k : Nat, k ≤ x.size ∧ s13 = .int .i64 k ∧ ∀ j, ∀ h : j < x.size, j < k → okB x[j]) (fun _ s13 => x.size - (intOf s13).toNat)
      case atStart => exact ⟨0, by omega, rfl, fun j _ h => by omega⟩
      case round =>
        obtain ⟨k, hk, rfl, hall⟩ := hrel
        have hall' := Lib.hid hall; clear hall
        by_cases hlt : k < x.size
        · by_cases hc : okB x[k]
          · obtain ⟨c1, c2⟩ := hc
            go_wp2
            go_round
            case rel => exact ⟨k + 1, by omega, by go_num, fun j h hj => by
              rcases Nat.lt_or_ge j k with q | q
              · exact hall'.out j h q
              · obtain rfl : j = k := by omega
                exact ⟨c1, c2⟩⟩
            case measure => simp [intOf]; omega
          · have hn : r = false := by rw [hr'.out]; exact decide_eq_false (fun h => hc (mayN_byte hlt h))
            subst hn
            unfold okB at hc
            by_cases c1 : 33 ≤ x[k].toNat
            · have c2 : ¬ x[k].toNat ≤ 126 := fun q => hc ⟨c1, q⟩
              clear hc
              go_wp2
              go_ret
              exact ⟨rfl, rfl⟩
            · clear hc
              go_wp2
              go_ret
              exact ⟨rfl, rfl⟩
        · have hm : MayN x := ⟨by omega, by omega, fun c hc => by
            rw [ByteArray.toList_eq] at hc
            obtain ⟨i, hi, e⟩ := List.mem_iff_getElem.1 hc
            have hi' : i < x.size := by simpa using hi
            have := hall'.out i hi' (by omega)
            rw [← e]; exact this⟩
          have hn : r = true := by rw [hr'.out]; exact decide_eq_true hm
          subst hn
          clear hm
          go_wp2
          go_ret
          exact ⟨rfl, rfl⟩

theorem burn_no {s : DS} {L : List Fl} {t : Bool} (h : s.left = 0) : burnE s L t = ({ s with L := L }, 0) := by
  unfold burnE; rw [if_neg (by omega), if_neg (by omega)]
theorem burn_one {s : DS} {L : List Fl} {t : Bool} (h : s.left = 1) : burnE s L t = ({ s with L := if t then L else s.L, left := 0, off := true }, 100) := by
  unfold burnE; rw [if_pos h]
theorem burn_more {s : DS} {L : List Fl} {t : Bool} (h : 1 < s.left) : burnE s L t = ({ s with L := L, left := s.left - 1 }, 0) := by
  unfold burnE; rw [if_neg (by omega), if_pos (by omega)]

set_option maxRecDepth 100000 in
set_option maxHeartbeats 1600000 in
theorem act_any (w : World) (d b : Nat) (s : DS) (F : Nat) (caps : Array Value) (though : Bool) (L : List Fl) (h : Disk w d b s) (hl : 0 ≤ s.left ∧ s.left < 9223372036854775808)
    (hF : ∀ (args : Array Value) (u : World), (callFunc F args).run Try.prog u = .ok (.enter F args) u)
    (hdo : ∀ u l, Disk u d b { s with left := l } → Upd (fun k => k = d) w u → Calls Try.prog F caps u fun e w' => e = .returned (.tuple #[]) ∧ FilesM w' b L L.length ∧ Upd (fun k => k = b) u w') :
    Calls Try.prog 47 #[.pointer (some ⟨d, 0, none⟩), .func (.func F) #[] caps, .bool though] w fun e w' => e = .returned (.int .i64 (burnE s L though).2) ∧ Disk w' d b (burnE s L though).1 ∧ Upd (DiskS d b) w w' := by
  have c2 := h.c2
  have c3 := h.c3
  have hf2 := h.1.frozen 2
  have hf3 := h.1.frozen 3
  have hdo' := Lib.hid hdo; clear hdo
  obtain ⟨hl0, hl1⟩ := hl
  by_cases h0 : s.left = 0
  · rw [burn_no h0]
    rw [h0] at c2
    go_enter Try.func47, Try.ntmps47
    go_wp2
    refine (hdo'.out _ s.left h (Upd.refl _ _)).mono ?_
    rintro e w1 ⟨rfl, h1, h2⟩
    go_wp2
    go_ret
    refine ⟨rfl, ⟨h.1.upd h2 (fun e => h.2.2 e.symm), h1, h.2.2⟩, h2.mono (fun k hk _ => .inr hk)⟩
  · have hU : ∀ v, Upd (fun k => k = d) w (w.setCell ⟨d, 2, none⟩ (.int .i64 v)) := fun v => Upd.set (S := fun k => k = d) (p := ⟨d, 2, none⟩) rfl _
    have hD : ∀ v, Disk (w.setCell ⟨d, 2, none⟩ (.int .i64 v)) d b { s with left := v } := fun v => ⟨h.1.set 2 _, h.2.1.other _ _ h.2.2, h.2.2⟩
    have hU' := Lib.hid hU; clear hU
    have hD' := Lib.hid hD; clear hD
    have hbd := h.2.2
    by_cases h1 : s.left = 1
    · rw [burn_one h1]
      rw [h1] at c2
      cases though
      · go_enter Try.func47, Try.ntmps47
        go_wp2
        go_ret
        refine ⟨rfl, ⟨(hD'.out 0).1.set 3 (.bool true), (hD'.out 0).2.1.other _ _ hbd, hbd⟩, ?_⟩
        exact ((hU'.out 0).trans (Upd.set (S := fun k => k = d) (p := ⟨d, 3, none⟩) rfl _) (fun i hi _ => hi)).mono (fun k hk _ => .inl hk)
      · go_enter Try.func47, Try.ntmps47
        go_wp2
        refine (hdo'.out _ 0 (hD'.out 0) (hU'.out 0)).mono ?_
        rintro e w1 ⟨rfl, g1, g2⟩
        have hb1 : Blk w1 d [.map (some b), .int .i64 s.room, .int .i64 0, .bool s.off] := (hD'.out 0).1.upd g2 (fun e => hbd e.symm)
        have f3 := hb1.at 3 rfl
        have f3' := hb1.frozen 3
        go_wp2
        go_ret
        refine ⟨rfl, ⟨hb1.set 3 (.bool true), g1.other _ _ hbd, hbd⟩, ?_⟩
        exact (((hU'.out 0).mono (T := DiskS d b) (fun k hk _ => .inl hk)).trans g2 (fun i hi _ => .inr hi)).trans (Upd.set (S := fun k => k = d) (p := ⟨d, 3, none⟩) rfl _) (fun i hi _ => .inl hi)
    · rw [burn_more (by omega)]
      go_enter Try.func47, Try.ntmps47
      go_wp2
      refine (hdo'.out _ (s.left - 1) (hD'.out _) (hU'.out _)).mono ?_
      rintro e w1 ⟨rfl, g1, g2⟩
      go_wp2
      go_ret
      refine ⟨rfl, ⟨(hD'.out _).1.upd g2 (fun e => hbd e.symm), g1, hbd⟩, ?_⟩
      exact ((hU'.out _).mono (T := DiskS d b) (fun k hk _ => .inl hk)).trans g2 (fun i hi _ => .inr hi)

end Go.Proofs.Ytgpdbifgbabnnaa
