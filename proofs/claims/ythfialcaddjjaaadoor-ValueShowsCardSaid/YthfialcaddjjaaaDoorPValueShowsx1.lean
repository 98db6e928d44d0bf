-- made by this session's own program (wip/tools/xprint.py) with the kit's printer's help; checked by Lean alone
import Derived.Test.YthfialcaddjjaaaDoorPValueShowsx0
namespace Go.Proofs.YthfialcaddjjaaaDoor.PValueShows
open Go.RowKit Go.Proofs.YthfialcaddjjaaaDoorW.PrintWords Go.Proofs.YthfialcaddjjaaaDoorW.PrintLast Go.Proofs.YthfialcaddjjaaaDoorW.PrintMore
attribute [local go_sem] max2_int min2_int max_two min_two max_three min_three max_four min_four   -- for this text's walks alone
set_option linter.unusedVariables false
set_option linter.unusedSimpArgs false

/-! ### value_Check: function 9 -/
def value_Check.f (a0_0 a0_1 : Int) (a0_2 : ByteArray) : Option Int :=
  if a0_0 = 0 then some (if a0_1 = 0 ∧ a0_2.size = 0 then 0 else 1)
  else if a0_0 = 1 then some (if a0_2.size = 0 ∧ (a0_1 = 0 ∨ a0_1 = 1) then 0 else 1)
  else if a0_0 = 2 ∨ a0_0 = 3 then some (if a0_2.size = 0 then 0 else 1)
  else if a0_0 = 4 then (if a0_2.size ≤ 9223372036854775807 then some (if a0_1 = 0 ∧ a0_2.size ≤ 1024 ∧ Lib.validD a0_2.data.toList = true then 0 else 1) else none)
  else some 1
theorem value_Check.empty {s : ByteArray} (h : s.size = 0) : s = ⟨#[]⟩ := by
  obtain ⟨a⟩ := s
  have : a.size = 0 := h
  rw [Array.size_eq_zero_iff.1 this]
set_option maxHeartbeats 8000000 in
theorem value_Check.calls (a0_0 a0_1 : Int) (a0_2 : ByteArray) (r : Int) (w : World) (hG : Laid w) (h : value_Check.f a0_0 a0_1 a0_2 = some r) :
    Calls Tryd.prog 9 #[.agg #[.int .i64 a0_0, .int .i64 a0_1, .string a0_2]] w fun e w' => e = .returned (.int .i64 r) ∧ Below w.heap.size w w' := by
  have hb0 : Below w.heap.size w (w.alloc (.cells #[.int .i64 a0_0, .int .i64 a0_1, .string a0_2] 23)) := (Below.refl _ _).alloc (Nat.le_refl _) _
  have HB := Lib.hid hb0
  have hne : ∀ s : ByteArray, ¬ s.size = 0 → s.toList.isEmpty = false ∧ ¬ s.toList = [] := fun s hs => by
    have hl : s.toList.length = s.size := by rw [ByteArray.toList_eq]; exact data_length s
    cases hh : s.toList with
    | nil => rw [hh] at hl; exact absurd hl.symm hs
    | cons a l => exact ⟨rfl, by simp⟩
  unfold value_Check.f at h
  by_cases k0 : a0_0 = 0
  · subst k0
    rw [if_pos rfl] at h
    by_cases s0 : a0_2.size = 0
    · obtain rfl := value_Check.empty s0
      by_cases n0 : a0_1 = 0
      · subst n0
        obtain rfl := Option.some.inj h
        clear h hG hne hb0
        go_enter Tryd.func9, Tryd.ntmps9
        go_wp2
        go_ret
        exact ⟨rfl, HB.out⟩
      · rw [if_neg (by simp [n0])] at h
        obtain rfl := Option.some.inj h
        have n0b : (a0_1 == 0) = false := by simpa using n0
        clear h hG hne hb0 n0
        go_enter Tryd.func9, Tryd.ntmps9
        go_wp2
        go_ret
        exact ⟨rfl, HB.out⟩
    · rw [if_neg (by simp [s0])] at h
      obtain rfl := Option.some.inj h
      obtain ⟨e1, e2⟩ := hne _ s0
      clear h hG hne hb0 s0
      by_cases n0 : a0_1 = 0
      · subst n0
        go_enter Tryd.func9, Tryd.ntmps9
        go_wp2
        go_ret
        exact ⟨rfl, HB.out⟩
      · have n0b : (a0_1 == 0) = false := by simpa using n0
        clear n0
        go_enter Tryd.func9, Tryd.ntmps9
        go_wp2
        go_ret
        exact ⟨rfl, HB.out⟩
  rw [if_neg k0] at h
  by_cases k1 : a0_0 = 1
  · subst k1
    rw [if_pos rfl] at h
    clear k0
    by_cases s0 : a0_2.size = 0
    · obtain rfl := value_Check.empty s0
      by_cases n0 : a0_1 = 0
      · subst n0
        obtain rfl := Option.some.inj h
        clear h hG hne hb0
        go_enter Tryd.func9, Tryd.ntmps9
        go_wp2
        go_ret
        exact ⟨rfl, HB.out⟩
      · by_cases n1 : a0_1 = 1
        · subst n1
          obtain rfl := Option.some.inj h
          clear h hG hne hb0
          go_enter Tryd.func9, Tryd.ntmps9
          go_wp2
          go_ret
          exact ⟨rfl, HB.out⟩
        · rw [if_neg (by simp [n0, n1])] at h
          obtain rfl := Option.some.inj h
          have n0b : (a0_1 == 0) = false := by simpa using n0
          have n1b : (a0_1 == 1) = false := by simpa using n1
          clear h hG hne hb0 n0 n1
          go_enter Tryd.func9, Tryd.ntmps9
          go_wp2
          go_ret
          exact ⟨rfl, HB.out⟩
    · rw [if_neg (by simp [s0])] at h
      obtain rfl := Option.some.inj h
      obtain ⟨e1, e2⟩ := hne _ s0
      clear h hG hne hb0 s0
      go_enter Tryd.func9, Tryd.ntmps9
      go_wp2
      go_ret
      exact ⟨rfl, HB.out⟩
  rw [if_neg k1] at h
  by_cases k2 : a0_0 = 2 ∨ a0_0 = 3
  · rw [if_pos k2] at h
    clear k0 k1
    by_cases s0 : a0_2.size = 0
    · obtain rfl := value_Check.empty s0
      obtain rfl := Option.some.inj h
      clear h hG hne hb0
      rcases k2 with rfl | rfl
      all_goals
        go_enter Tryd.func9, Tryd.ntmps9
        go_wp2
        go_ret
        exact ⟨rfl, HB.out⟩
    · rw [if_neg s0] at h
      obtain rfl := Option.some.inj h
      obtain ⟨e1, e2⟩ := hne _ s0
      clear h hG hne hb0 s0
      rcases k2 with rfl | rfl
      all_goals
        go_enter Tryd.func9, Tryd.ntmps9
        go_wp2
        go_ret
        exact ⟨rfl, HB.out⟩
  rw [if_neg k2] at h
  by_cases k4 : a0_0 = 4
  · subst k4
    rw [if_pos rfl] at h
    clear k0 k1 k2 hne
    by_cases hs : a0_2.size ≤ 9223372036854775807
    · rw [if_pos hs] at h
      have hl : Laid (w.alloc (.cells #[.int .i64 4, .int .i64 a0_1, .string a0_2] 23)) := hG.below hb0
      have cV := Tryd.utf8_ValidString a0_2 _ hs hl.1
      have HV := Lib.hid cV
      clear cV hl hG
      by_cases n0 : a0_1 = 0
      · subst n0
        by_cases hm : a0_2.size ≤ 1024
        · obtain ⟨v, hv⟩ : ∃ v, Lib.validD a0_2.data.toList = v := ⟨_, rfl⟩
          rw [hv] at HV
          rw [hv] at h
          cases v
          · obtain rfl := Option.some.inj (h.symm.trans (congrArg some (if_neg (by simp))))
            have hm1 : (a0_2.size : Int) ≤ 1024 := by omega
            clear h hb0 hv hs hm
            go_enter Tryd.func9, Tryd.ntmps9
            go_wp2_with (go_at_call 28; refine HV.out.mono ?_; rintro e w1 ⟨rfl, hb1⟩; have HB2 := Lib.hid (HB.out.trans (hb1.mono (by simp))); clear hb1)
            go_ret
            exact ⟨rfl, HB2.out⟩
          · obtain rfl := Option.some.inj (h.symm.trans (congrArg some (if_pos ⟨rfl, hm, rfl⟩)))
            have hm1 : (a0_2.size : Int) ≤ 1024 := by omega
            clear h hb0 hv hs hm
            go_enter Tryd.func9, Tryd.ntmps9
            go_wp2_with (go_at_call 28; refine HV.out.mono ?_; rintro e w1 ⟨rfl, hb1⟩; have HB2 := Lib.hid (HB.out.trans (hb1.mono (by simp))); clear hb1)
            go_ret
            exact ⟨rfl, HB2.out⟩
        · rw [if_neg (by simp [hm])] at h
          obtain rfl := Option.some.inj h
          have hm1 : ¬ (a0_2.size : Int) ≤ 1024 := by omega
          clear h hb0 hs hm HV
          go_enter Tryd.func9, Tryd.ntmps9
          go_wp2
          go_ret
          exact ⟨rfl, HB.out⟩
      · rw [if_neg (by simp [n0])] at h
        obtain rfl := Option.some.inj h
        have n0b : (a0_1 == 0) = false := by simpa using n0
        clear h hb0 n0 hs HV
        go_enter Tryd.func9, Tryd.ntmps9
        go_wp2
        go_ret
        exact ⟨rfl, HB.out⟩
    · rw [if_neg hs] at h
      cases h
  · rw [if_neg k4] at h
    obtain rfl := Option.some.inj h
    have k0b : (a0_0 == 0) = false := by simpa using k0
    have k1b : (a0_0 == 1) = false := by simpa using k1
    have k2b : (a0_0 == 2) = false := by simp; omega
    have k3b : (a0_0 == 3) = false := by simp; omega
    have k4b : (a0_0 == 4) = false := by simpa using k4
    clear h hG hne hb0 k0 k1 k2 k4
    go_enter Tryd.func9, Tryd.ntmps9
    go_wp2
    go_ret
    exact ⟨rfl, HB.out⟩

/-! ### marqueeref01_Runes: function 29 -/
mutual
def marqueeref01_Runes.l0 : Nat → ByteArray → Int → Option (Bool)
  | 0, _, _ => none
  | k + 1, x0, x3 => if x3 < (x0.size : Int) then (if 0 ≤ x3 then (if (wrap64 (bt x0 x3)) < 128 then (marqueeref01_Runes.j3 k x0 x3 1 0 (wrap64 (bt x0 x3))) else (if (wrap64 (bt x0 x3)) ≥ 192 then (marqueeref01_Runes.j1 k x0 x3 (wrap64 (bt x0 x3)) (decide ((wrap64 (bt x0 x3)) < 224))) else (marqueeref01_Runes.j1 k x0 x3 (wrap64 (bt x0 x3)) false))) else (none)) else (some true)
def marqueeref01_Runes.j3 : Nat → ByteArray → Int → Int → Int → Int → Option (Bool)
  | 0, _, _, _, _, _ => none
  | k + 1, x0, x3, x5, x6, x7 => if (wrap64 ((x0.size : Int) - x3)) < x5 then (some false) else (marqueeref01_Runes.l1 k x0 x3 x5 x6 x7 1)
def marqueeref01_Runes.l1 : Nat → ByteArray → Int → Int → Int → Int → Int → Option (Bool)
  | 0, _, _, _, _, _, _ => none
  | k + 1, x0, x3, x5, x6, x7, x8 => if x8 < x5 then (if 0 ≤ (wrap64 (x3 + x8)) then (if (wrap64 (x3 + x8)) < (x0.size : Int) then (if (wrap64 (bt x0 (wrap64 (x3 + x8)))) < 128 then (some false) else (if (wrap64 (bt x0 (wrap64 (x3 + x8)))) ≥ 192 then (some false) else (marqueeref01_Runes.l1 k x0 x3 x5 x6 (wrap64 ((wrap64 ((wrap64 (x7 * 64)) + (wrap64 (bt x0 (wrap64 (x3 + x8)))))) - 128)) (wrap64 (x8 + 1))))) else (none)) else (none)) else (if x7 < x6 then (some false) else (if x7 > 1114111 then (some false) else (if x7 ≥ 55296 then (if x7 < 57344 then (some false) else (marqueeref01_Runes.l0 k x0 (wrap64 (x3 + x5)))) else (marqueeref01_Runes.l0 k x0 (wrap64 (x3 + x5))))))
def marqueeref01_Runes.j1 : Nat → ByteArray → Int → Int → Bool → Option (Bool)
  | 0, _, _, _, _ => none
  | k + 1, x0, x3, x4, x22 => if x22 = true then (marqueeref01_Runes.j3 k x0 x3 2 128 (wrap64 (x4 - 192))) else (if x4 ≥ 224 then (marqueeref01_Runes.j2 k x0 x3 x4 (decide (x4 < 240))) else (marqueeref01_Runes.j2 k x0 x3 x4 false))
def marqueeref01_Runes.j2 : Nat → ByteArray → Int → Int → Bool → Option (Bool)
  | 0, _, _, _, _ => none
  | k + 1, x0, x3, x4, x31 => if x31 = true then (marqueeref01_Runes.j3 k x0 x3 3 2048 (wrap64 (x4 - 224))) else (if x4 ≥ 240 then (if x4 < 248 then (marqueeref01_Runes.j3 k x0 x3 4 65536 (wrap64 (x4 - 240))) else (some false)) else (some false))
end
def marqueeref01_Runes.f (k : Nat) (a0 : ByteArray) : Option (Bool) := marqueeref01_Runes.l0 k a0 0
theorem marqueeref01_Runes.mono_l : ∀ k, (∀ y0 y1, LeO (marqueeref01_Runes.l0 k y0 y1) (marqueeref01_Runes.l0 (k + 1) y0 y1)) ∧ (∀ y0 y1 y2 y3 y4, LeO (marqueeref01_Runes.j3 k y0 y1 y2 y3 y4) (marqueeref01_Runes.j3 (k + 1) y0 y1 y2 y3 y4)) ∧ (∀ y0 y1 y2 y3 y4 y5, LeO (marqueeref01_Runes.l1 k y0 y1 y2 y3 y4 y5) (marqueeref01_Runes.l1 (k + 1) y0 y1 y2 y3 y4 y5)) ∧ (∀ y0 y1 y2 y3, LeO (marqueeref01_Runes.j1 k y0 y1 y2 y3) (marqueeref01_Runes.j1 (k + 1) y0 y1 y2 y3)) ∧ (∀ y0 y1 y2 y3, LeO (marqueeref01_Runes.j2 k y0 y1 y2 y3) (marqueeref01_Runes.j2 (k + 1) y0 y1 y2 y3))
  | 0 => ⟨fun _ _ r h => by simp [marqueeref01_Runes.l0] at h, fun _ _ _ _ _ r h => by simp [marqueeref01_Runes.j3] at h, fun _ _ _ _ _ _ r h => by simp [marqueeref01_Runes.l1] at h, fun _ _ _ _ r h => by simp [marqueeref01_Runes.j1] at h, fun _ _ _ _ r h => by simp [marqueeref01_Runes.j2] at h⟩
  | k + 1 => by
    obtain ⟨ih0, ih1, ih2, ih3, ih4⟩ := marqueeref01_Runes.mono_l k
    refine ⟨?_, ?_, ?_, ?_, ?_⟩
    · intro y0 y1
      unfold marqueeref01_Runes.l0
      repeat' first
      | (with_reducible exact ih0 _ _)
      | (with_reducible exact ih1 _ _ _ _ _)
      | (with_reducible exact ih2 _ _ _ _ _ _)
      | (with_reducible exact ih3 _ _ _ _)
      | (with_reducible exact ih4 _ _ _ _)
      | (with_reducible exact LeO.refl _)
      | (with_reducible exact LeO.none _)
      | (with_reducible refine LeO.ite ?_ ?_)
      | (with_reducible refine LeO.bind ?_ (fun _ => ?_))
      | exact ih0 _ _
      | exact ih1 _ _ _ _ _
      | exact ih2 _ _ _ _ _ _
      | exact ih3 _ _ _ _
      | exact ih4 _ _ _ _
      | exact LeO.none _
      | refine LeO.ite ?_ ?_
      | refine LeO.bind ?_ (fun _ => ?_)
    · intro y0 y1 y2 y3 y4
      unfold marqueeref01_Runes.j3
      repeat' first
      | (with_reducible exact ih0 _ _)
      | (with_reducible exact ih1 _ _ _ _ _)
      | (with_reducible exact ih2 _ _ _ _ _ _)
      | (with_reducible exact ih3 _ _ _ _)
      | (with_reducible exact ih4 _ _ _ _)
      | (with_reducible exact LeO.refl _)
      | (with_reducible exact LeO.none _)
      | (with_reducible refine LeO.ite ?_ ?_)
      | (with_reducible refine LeO.bind ?_ (fun _ => ?_))
      | exact ih0 _ _
      | exact ih1 _ _ _ _ _
      | exact ih2 _ _ _ _ _ _
      | exact ih3 _ _ _ _
      | exact ih4 _ _ _ _
      | exact LeO.none _
      | refine LeO.ite ?_ ?_
      | refine LeO.bind ?_ (fun _ => ?_)
    · intro y0 y1 y2 y3 y4 y5
      unfold marqueeref01_Runes.l1
      repeat' first
      | (with_reducible exact ih0 _ _)
      | (with_reducible exact ih1 _ _ _ _ _)
      | (with_reducible exact ih2 _ _ _ _ _ _)
      | (with_reducible exact ih3 _ _ _ _)
      | (with_reducible exact ih4 _ _ _ _)
      | (with_reducible exact LeO.refl _)
      | (with_reducible exact LeO.none _)
      | (with_reducible refine LeO.ite ?_ ?_)
      | (with_reducible refine LeO.bind ?_ (fun _ => ?_))
      | exact ih0 _ _
      | exact ih1 _ _ _ _ _
      | exact ih2 _ _ _ _ _ _
      | exact ih3 _ _ _ _
      | exact ih4 _ _ _ _
      | exact LeO.none _
      | refine LeO.ite ?_ ?_
      | refine LeO.bind ?_ (fun _ => ?_)
    · intro y0 y1 y2 y3
      unfold marqueeref01_Runes.j1
      repeat' first
      | (with_reducible exact ih0 _ _)
      | (with_reducible exact ih1 _ _ _ _ _)
      | (with_reducible exact ih2 _ _ _ _ _ _)
      | (with_reducible exact ih3 _ _ _ _)
      | (with_reducible exact ih4 _ _ _ _)
      | (with_reducible exact LeO.refl _)
      | (with_reducible exact LeO.none _)
      | (with_reducible refine LeO.ite ?_ ?_)
      | (with_reducible refine LeO.bind ?_ (fun _ => ?_))
      | exact ih0 _ _
      | exact ih1 _ _ _ _ _
      | exact ih2 _ _ _ _ _ _
      | exact ih3 _ _ _ _
      | exact ih4 _ _ _ _
      | exact LeO.none _
      | refine LeO.ite ?_ ?_
      | refine LeO.bind ?_ (fun _ => ?_)
    · intro y0 y1 y2 y3
      unfold marqueeref01_Runes.j2
      repeat' first
      | (with_reducible exact ih0 _ _)
      | (with_reducible exact ih1 _ _ _ _ _)
      | (with_reducible exact ih2 _ _ _ _ _ _)
      | (with_reducible exact ih3 _ _ _ _)
      | (with_reducible exact ih4 _ _ _ _)
      | (with_reducible exact LeO.refl _)
      | (with_reducible exact LeO.none _)
      | (with_reducible refine LeO.ite ?_ ?_)
      | (with_reducible refine LeO.bind ?_ (fun _ => ?_))
      | exact ih0 _ _
      | exact ih1 _ _ _ _ _
      | exact ih2 _ _ _ _ _ _
      | exact ih3 _ _ _ _
      | exact ih4 _ _ _ _
      | exact LeO.none _
      | refine LeO.ite ?_ ?_
      | refine LeO.bind ?_ (fun _ => ?_)
theorem marqueeref01_Runes.mono : ∀ a0 k, LeO (marqueeref01_Runes.f k a0) (marqueeref01_Runes.f (k + 1) a0) := by
  intro a0 k
  obtain ⟨ih0, ih1, ih2, ih3, ih4⟩ := marqueeref01_Runes.mono_l k
  unfold marqueeref01_Runes.f
  repeat' first
      | (with_reducible exact ih0 _ _)
      | (with_reducible exact ih1 _ _ _ _ _)
      | (with_reducible exact ih2 _ _ _ _ _ _)
      | (with_reducible exact ih3 _ _ _ _)
      | (with_reducible exact ih4 _ _ _ _)
      | (with_reducible exact LeO.refl _)
      | (with_reducible exact LeO.none _)
      | (with_reducible refine LeO.ite ?_ ?_)
      | (with_reducible refine LeO.bind ?_ (fun _ => ?_))
      | exact ih0 _ _
      | exact ih1 _ _ _ _ _
      | exact ih2 _ _ _ _ _ _
      | exact ih3 _ _ _ _
      | exact ih4 _ _ _ _
      | exact LeO.none _
      | refine LeO.ite ?_ ?_
      | refine LeO.bind ?_ (fun _ => ?_)
set_option maxHeartbeats 8000000 in
set_option maxRecDepth 100000 in
theorem marqueeref01_Runes.calls (k : Nat) (a0 : ByteArray) (r : Bool) (w : World) (h : marqueeref01_Runes.f k a0 = some r) :
    Calls Tryd.prog 29 #[.string a0] w fun e w' => e = .returned (.bool r) ∧ Drawn0 w w' := by
  have H : (marqueeref01_Runes.l0 k a0 0) = some r := h
  clear h
  have H' := Aside0.mk H
  clear H
  go_enter Tryd.func29, Tryd.ntmps29
  go_wp2
  go_loopg [3] k (fun kq v3 w' => ∃ (x3_1 : Int), v3 = .int .i64 x3_1 ∧ Aside0 (marqueeref01_Runes.l0 kq a0 x3_1 = some r) ∧ Aside0 (kq ≤ k) ∧ Drawn0 w w')
  case atStart => exact ⟨(0), (by first | rfl | (simp; done) | (simp [*]; done)), H', ⟨Nat.le_refl _⟩, by repeat (first | exact Drawn0.refl _ | apply Drawn0.step)⟩
  case round =>
    clear H'
    obtain ⟨x3_1, rfl, HA, HK1, ⟨m1, rfl⟩⟩ := hrel
    cases gk with
    | zero => exact absurd HA.out (by simp [marqueeref01_Runes.l0])
    | succ k1 =>
      have H := HA.out
      clear HA
      simp only [marqueeref01_Runes.l0] at H
      by_cases c2 : x3_1 < (a0.size : Int)
      · rw [if_pos c2] at H
        have c2b0 : decide (x3_1 < (a0.size : Int)) = true := decide_eq_true c2
        clear c2
        by_cases c3 : 0 ≤ x3_1
        · rw [if_pos c3] at H
          have c3b0 : decide (0 ≤ x3_1) = true := decide_eq_true c3
          clear c3
          have HC5 := Aside0.mk H
          clear H
          have p4 : 0 ≤ (x3_1 : Int) := of_decide_eq_true (by first | (with_reducible assumption) | assumption)
          have q4 : x3_1 < (a0.size : Int) := of_decide_eq_true (by first | (with_reducible assumption) | assumption)
          have hx4 := bt_at a0 x3_1
          replace p4 := eq_true p4
          replace q4 := eq_true q4
          go_upto_block 2 with (fail)
          go_cut [5, 6, 7] (fun v5 v6 v7 wc => ∃ (kq : Nat) (x5_4 : Int) (x6_4 : Int) (x7_4 : Int), v5 = .int .i64 x5_4 ∧ v6 = .int .i64 x6_4 ∧ v7 = .int .i64 x7_4 ∧ Aside0 (marqueeref01_Runes.j3 kq a0 x3_1 x5_4 x6_4 x7_4 = some r) ∧ Aside0 (kq ≤ k1) ∧ Drawn0 w wc)
          case first =>
            have H := HC5.out
            clear HC5
            by_cases c6 : (wrap64 (bt a0 x3_1)) < 128
            · rw [if_pos c6] at H
              have c6b0 : decide ((wrap64 (bt a0 x3_1)) < 128) = true := decide_eq_true c6
              clear c6
              (first | rw [c6b0] | (simp only [i64_w, i32_w]; rw [c6b0]) | skip)
              have H' := Aside0.mk H
              clear H
              go_wp2
              go_meet
              case rel => exact ⟨_, (1), (0), (wrap64 (bt a0 x3_1)), (by first | rfl | (simp; done) | (simp [*]; done)), (by first | rfl | (simp; done) | (simp [*]; done)), (by first | rfl | (simp; done) | (simp [*]; done)), H', ⟨by have := HK1.out; first | omega | exact Nat.le_refl _⟩, by repeat (first | exact Drawn0.refl _ | apply Drawn0.step)⟩
            · rw [if_neg c6] at H
              have c6b0 : decide ((wrap64 (bt a0 x3_1)) < 128) = false := decide_eq_false c6
              clear c6
              (first | rw [c6b0] | (simp only [i64_w, i32_w]; rw [c6b0]) | skip)
              have HC7 := Aside0.mk H
              clear H
              go_upto_region 7 with (fail)
              go_cut [22] (fun v22 wc => ∃ (kq : Nat) (x22_6 : Bool), v22 = .bool x22_6 ∧ Aside0 (marqueeref01_Runes.j1 kq a0 x3_1 (wrap64 (bt a0 x3_1)) x22_6 = some r) ∧ Aside0 (kq ≤ k1) ∧ Drawn0 w wc)
              case first =>
                have H := HC7.out
                clear HC7
                by_cases c8 : (wrap64 (bt a0 x3_1)) ≥ 192
                · rw [if_pos c8] at H
                  have c8b0 : decide (192 ≤ (wrap64 (bt a0 x3_1))) = true := decide_eq_true c8
                  clear c8
                  (first | rw [c8b0] | (simp only [i64_w, i32_w]; rw [c8b0]) | skip)
                  have H' := Aside0.mk H
                  clear H
                  go_wp2
                  go_meet
                  case rel => exact ⟨_, (decide ((wrap64 (bt a0 x3_1)) < 224)), (by first | rfl | (simp; done) | (simp [*]; done)), H', ⟨by have := HK1.out; first | omega | exact Nat.le_refl _⟩, by repeat (first | exact Drawn0.refl _ | apply Drawn0.step)⟩
                · rw [if_neg c8] at H
                  have c8b0 : decide (192 ≤ (wrap64 (bt a0 x3_1))) = false := decide_eq_false c8
                  clear c8
                  (first | rw [c8b0] | (simp only [i64_w, i32_w]; rw [c8b0]) | skip)
                  have H' := Aside0.mk H
                  clear H
                  go_wp2
                  go_meet
                  case rel => exact ⟨_, (false), (by first | rfl | (simp; done) | (simp [*]; done)), H', ⟨by have := HK1.out; first | omega | exact Nat.le_refl _⟩, by repeat (first | exact Drawn0.refl _ | apply Drawn0.step)⟩
              case rest =>
                clear HC7
                try clear c2
                try clear c2b0
                try clear p2
                try clear c3
                try clear c3b0
                try clear p4
                try clear q4
                try clear hx4
                try clear c6
                try clear c6b0
                try clear p6
                try clear c8
                try clear c8b0
                try clear p4
                try clear q4
                obtain ⟨kq, x22_6, rfl, HA, HJ6, ⟨mc6, rfl⟩⟩ := hcut
                cases kq with
                | zero => exact absurd HA.out (by simp [marqueeref01_Runes.j1])
                | succ kj6 =>
                  have H := HA.out
                  clear HA
                  simp only [marqueeref01_Runes.j1] at H
                  by_cases c9 : x22_6 = true
                  · subst c9
                    have H1 : (marqueeref01_Runes.j3 kj6 a0 x3_1 2 128 (wrap64 ((wrap64 (bt a0 x3_1)) - 192))) = some r := by rw [if_pos rfl] at H; exact H
                    clear H
                    have H := H1
                    clear H1
                    have H' := Aside0.mk H
                    clear H
                    go_wp2
                    go_meet
                    case rel => exact ⟨_, (2), (128), (wrap64 ((wrap64 (bt a0 x3_1)) - 192)), (by first | rfl | (simp; done) | (simp [*]; done)), (by first | rfl | (simp; done) | (simp [*]; done)), (by first | rfl | (simp; done) | (simp [*]; done)), H', ⟨by have := HK1.out; have := HJ6.out; first | omega | exact Nat.le_refl _⟩, by repeat (first | exact Drawn0.refl _ | apply Drawn0.step)⟩
                  · replace c9 := Bool.eq_false_iff.mpr c9
                    subst c9
                    have H1 : (if (wrap64 (bt a0 x3_1)) ≥ 224 then (marqueeref01_Runes.j2 kj6 a0 x3_1 (wrap64 (bt a0 x3_1)) (decide ((wrap64 (bt a0 x3_1)) < 240))) else (marqueeref01_Runes.j2 kj6 a0 x3_1 (wrap64 (bt a0 x3_1)) false)) = some r := by rw [if_neg (show ¬ (false = true) by decide)] at H; exact H
                    clear H
                    have H := H1
                    clear H1
                    have HC10 := Aside0.mk H
                    clear H
                    go_upto_region 9 with (fail)
                    go_cut [31] (fun v31 wc => ∃ (kq : Nat) (x31_9 : Bool), v31 = .bool x31_9 ∧ Aside0 (marqueeref01_Runes.j2 kq a0 x3_1 (wrap64 (bt a0 x3_1)) x31_9 = some r) ∧ Aside0 (kq ≤ kj6) ∧ Drawn0 w wc)
                    case first =>
                      have H := HC10.out
                      clear HC10
                      by_cases c11 : (wrap64 (bt a0 x3_1)) ≥ 224
                      · rw [if_pos c11] at H
                        have c11b0 : decide (224 ≤ (wrap64 (bt a0 x3_1))) = true := decide_eq_true c11
                        clear c11
                        (first | rw [c11b0] | (simp only [i64_w, i32_w]; rw [c11b0]) | skip)
                        have H' := Aside0.mk H
                        clear H
                        go_wp2
                        go_meet
                        case rel => exact ⟨_, (decide ((wrap64 (bt a0 x3_1)) < 240)), (by first | rfl | (simp; done) | (simp [*]; done)), H', ⟨by have := HK1.out; have := HJ6.out; first | omega | exact Nat.le_refl _⟩, by repeat (first | exact Drawn0.refl _ | apply Drawn0.step)⟩
                      · rw [if_neg c11] at H
                        have c11b0 : decide (224 ≤ (wrap64 (bt a0 x3_1))) = false := decide_eq_false c11
                        clear c11
                        (first | rw [c11b0] | (simp only [i64_w, i32_w]; rw [c11b0]) | skip)
                        have H' := Aside0.mk H
                        clear H
                        go_wp2
                        go_meet
                        case rel => exact ⟨_, (false), (by first | rfl | (simp; done) | (simp [*]; done)), H', ⟨by have := HK1.out; have := HJ6.out; first | omega | exact Nat.le_refl _⟩, by repeat (first | exact Drawn0.refl _ | apply Drawn0.step)⟩
                    case rest =>
                      clear HC10
                      try clear c1
                      try clear c2
                      try clear c2b0
                      try clear p2
                      try clear c3
                      try clear c3b0
                      try clear p4
                      try clear q4
                      try clear hx4
                      try clear c6
                      try clear c6b0
                      try clear p6
                      try clear c8
                      try clear c8b0
                      try clear c9
                      try clear c11
                      try clear c11b0
                      try clear p2
                      try clear p4
                      try clear p6
                      try clear q4
                      obtain ⟨kq, x31_9, rfl, HA, HJ9, ⟨mc9, rfl⟩⟩ := hcut
                      cases kq with
                      | zero => exact absurd HA.out (by simp [marqueeref01_Runes.j2])
                      | succ kj9 =>
                        have H := HA.out
                        clear HA
                        simp only [marqueeref01_Runes.j2] at H
                        by_cases c12 : x31_9 = true
                        · subst c12
                          have H1 : (marqueeref01_Runes.j3 kj9 a0 x3_1 3 2048 (wrap64 ((wrap64 (bt a0 x3_1)) - 224))) = some r := by rw [if_pos rfl] at H; exact H
                          clear H
                          have H := H1
                          clear H1
                          have H' := Aside0.mk H
                          clear H
                          go_wp2
                          go_meet
                          case rel => exact ⟨_, (3), (2048), (wrap64 ((wrap64 (bt a0 x3_1)) - 224)), (by first | rfl | (simp; done) | (simp [*]; done)), (by first | rfl | (simp; done) | (simp [*]; done)), (by first | rfl | (simp; done) | (simp [*]; done)), H', ⟨by have := HK1.out; have := HJ6.out; have := HJ9.out; first | omega | exact Nat.le_refl _⟩, by repeat (first | exact Drawn0.refl _ | apply Drawn0.step)⟩
                        · replace c12 := Bool.eq_false_iff.mpr c12
                          subst c12
                          have H1 : (if (wrap64 (bt a0 x3_1)) ≥ 240 then (if (wrap64 (bt a0 x3_1)) < 248 then (marqueeref01_Runes.j3 kj9 a0 x3_1 4 65536 (wrap64 ((wrap64 (bt a0 x3_1)) - 240))) else (some false)) else (some false)) = some r := by rw [if_neg (show ¬ (false = true) by decide)] at H; exact H
                          clear H
                          have H := H1
                          clear H1
                          by_cases c13 : (wrap64 (bt a0 x3_1)) ≥ 240
                          · rw [if_pos c13] at H
                            have c13b0 : decide (240 ≤ (wrap64 (bt a0 x3_1))) = true := decide_eq_true c13
                            clear c13
                            by_cases c14 : (wrap64 (bt a0 x3_1)) < 248
                            · rw [if_pos c14] at H
                              have c14b0 : decide ((wrap64 (bt a0 x3_1)) < 248) = true := decide_eq_true c14
                              clear c14
                              have H' := Aside0.mk H
                              clear H
                              go_wp2
                              go_meet
                              case rel => exact ⟨_, (4), (65536), (wrap64 ((wrap64 (bt a0 x3_1)) - 240)), (by first | rfl | (simp; done) | (simp [*]; done)), (by first | rfl | (simp; done) | (simp [*]; done)), (by first | rfl | (simp; done) | (simp [*]; done)), H', ⟨by have := HK1.out; have := HJ6.out; have := HJ9.out; first | omega | exact Nat.le_refl _⟩, by repeat (first | exact Drawn0.refl _ | apply Drawn0.step)⟩
                            · rw [if_neg c14] at H
                              have c14b0 : decide ((wrap64 (bt a0 x3_1)) < 248) = false := decide_eq_false c14
                              clear c14
                              obtain rfl := Option.some.inj H
                              go_wp2
                              go_ret
                              exact ⟨by first | rfl | (simp; done) | (simp [*]; done), by repeat (first | exact Drawn0.refl _ | apply Drawn0.step)⟩
                          · rw [if_neg c13] at H
                            have c13b0 : decide (240 ≤ (wrap64 (bt a0 x3_1))) = false := decide_eq_false c13
                            clear c13
                            obtain rfl := Option.some.inj H
                            go_wp2
                            go_ret
                            exact ⟨by first | rfl | (simp; done) | (simp [*]; done), by repeat (first | exact Drawn0.refl _ | apply Drawn0.step)⟩
          case rest =>
            clear HC5
            try clear c1
            try clear c2
            try clear c2b0
            try clear p2
            try clear c3
            try clear c3b0
            try clear p4
            try clear q4
            try clear hx4
            try clear c6
            try clear c6b0
            try clear p6
            try clear c8
            try clear c8b0
            try clear c9
            try clear c11
            try clear c11b0
            try clear c12
            try clear c13
            try clear c13b0
            try clear c14
            try clear c14b0
            try clear p2
            try clear p4
            try clear p6
            try clear q4
            obtain ⟨kq, x5_4, x6_4, x7_4, rfl, rfl, rfl, HA, HJ4, ⟨mc4, rfl⟩⟩ := hcut
            cases kq with
            | zero => exact absurd HA.out (by simp [marqueeref01_Runes.j3])
            | succ kj4 =>
              have H := HA.out
              clear HA
              simp only [marqueeref01_Runes.j3] at H
              by_cases c15 : (wrap64 ((a0.size : Int) - x3_1)) < x5_4
              · rw [if_pos c15] at H
                have c15b0 : decide ((wrap64 ((a0.size : Int) - x3_1)) < x5_4) = true := decide_eq_true c15
                clear c15
                obtain rfl := Option.some.inj H
                go_wp2
                go_ret
                exact ⟨by first | rfl | (simp; done) | (simp [*]; done), by repeat (first | exact Drawn0.refl _ | apply Drawn0.step)⟩
              · rw [if_neg c15] at H
                have c15b0 : decide ((wrap64 ((a0.size : Int) - x3_1)) < x5_4) = false := decide_eq_false c15
                clear c15
                have H' := Aside0.mk H
                clear H
                go_wp2
                go_loopg [7, 8] kj4 (fun kq v7 v8 w' => ∃ (x7_3 : Int) (x8_3 : Int), v7 = .int .i64 x7_3 ∧ v8 = .int .i64 x8_3 ∧ Aside0 (marqueeref01_Runes.l1 kq a0 x3_1 x5_4 x6_4 x7_3 x8_3 = some r) ∧ Aside0 (kq ≤ kj4) ∧ Drawn0 w w')
                case atStart => exact ⟨(x7_4), (1), (by first | rfl | (simp; done) | (simp [*]; done)), (by first | rfl | (simp; done) | (simp [*]; done)), H', ⟨Nat.le_refl _⟩, by repeat (first | exact Drawn0.refl _ | apply Drawn0.step)⟩
                case round =>
                  clear H'
                  try clear c1
                  try clear c2
                  try clear c2b0
                  try clear p2
                  try clear c3
                  try clear c3b0
                  try clear c4
                  try clear p4
                  try clear q4
                  try clear hx4
                  try clear c6
                  try clear c6b0
                  try clear p6
                  try clear c8
                  try clear c8b0
                  try clear c9
                  try clear c11
                  try clear c11b0
                  try clear c12
                  try clear c13
                  try clear c13b0
                  try clear c14
                  try clear c14b0
                  try clear c15
                  try clear c15b0
                  try clear p2
                  try clear p4
                  try clear p6
                  try clear q4
                  obtain ⟨x7_3, x8_3, rfl, rfl, HA, HK3, ⟨m3, rfl⟩⟩ := hrel
                  cases gk with
                  | zero => exact absurd HA.out (by simp [marqueeref01_Runes.l1])
                  | succ k3 =>
                    have H := HA.out
                    clear HA
                    simp only [marqueeref01_Runes.l1] at H
                    by_cases c16 : x8_3 < x5_4
                    · rw [if_pos c16] at H
                      have c16b0 : decide (x8_3 < x5_4) = true := decide_eq_true c16
                      clear c16
                      obtain ⟨ji17, hji17⟩ : ∃ j_ : Int, (wrap64 (x3_1 + x8_3)) = j_ := ⟨_, rfl⟩
                      replace H : (if 0 ≤ (ji17) then (if (ji17) < (a0.size : Int) then (if (wrap64 (bt a0 (ji17))) < 128 then (some false) else (if (wrap64 (bt a0 (ji17))) ≥ 192 then (some false) else (marqueeref01_Runes.l1 k3 a0 x3_1 x5_4 x6_4 (wrap64 ((wrap64 ((wrap64 (x7_3 * 64)) + (wrap64 (bt a0 (ji17))))) - 128)) (wrap64 (x8_3 + 1))))) else (none)) else (none)) = some r := by first | (rw [hji17] at H; exact H) | (simp only [hji17] at H ⊢; exact H)
                      have hji17w : (IntKind.i64.wrap (x3_1 + x8_3)) = ji17 := (i64_w _).trans hji17
                      by_cases c18 : 0 ≤ (ji17)
                      · rw [if_pos c18] at H
                        have c18b0 : decide (0 ≤ (ji17)) = true := decide_eq_true c18
                        clear c18
                        by_cases c19 : (ji17) < (a0.size : Int)
                        · rw [if_pos c19] at H
                          have c19b0 : decide ((ji17) < (a0.size : Int)) = true := decide_eq_true c19
                          clear c19
                          by_cases c21 : (wrap64 (bt a0 (ji17))) < 128
                          · rw [if_pos c21] at H
                            have c21b0 : decide ((wrap64 (bt a0 (ji17))) < 128) = true := decide_eq_true c21
                            clear c21
                            obtain rfl := Option.some.inj H
                            have p20 : 0 ≤ ((ji17) : Int) := of_decide_eq_true (by first | (with_reducible assumption) | assumption)
                            have q20 : (ji17) < (a0.size : Int) := of_decide_eq_true (by first | (with_reducible assumption) | assumption)
                            have hx20 := bt_at a0 (ji17)
                            replace p20 := eq_true p20
                            replace q20 := eq_true q20
                            go_wp2
                            go_ret
                            exact ⟨by first | rfl | (simp; done) | (simp only [← hji17] <;> (first | rfl | simp)) | (simp [*]; done), by repeat (first | exact Drawn0.refl _ | apply Drawn0.step)⟩
                          · rw [if_neg c21] at H
                            have c21b0 : decide ((wrap64 (bt a0 (ji17))) < 128) = false := decide_eq_false c21
                            clear c21
                            by_cases c22 : (wrap64 (bt a0 (ji17))) ≥ 192
                            · rw [if_pos c22] at H
                              have c22b0 : decide (192 ≤ (wrap64 (bt a0 (ji17)))) = true := decide_eq_true c22
                              clear c22
                              obtain rfl := Option.some.inj H
                              have p20 : 0 ≤ ((ji17) : Int) := of_decide_eq_true (by first | (with_reducible assumption) | assumption)
                              have q20 : (ji17) < (a0.size : Int) := of_decide_eq_true (by first | (with_reducible assumption) | assumption)
                              have hx20 := bt_at a0 (ji17)
                              replace p20 := eq_true p20
                              replace q20 := eq_true q20
                              go_wp2
                              go_ret
                              exact ⟨by first | rfl | (simp; done) | (simp only [← hji17] <;> (first | rfl | simp)) | (simp [*]; done), by repeat (first | exact Drawn0.refl _ | apply Drawn0.step)⟩
                            · rw [if_neg c22] at H
                              have c22b0 : decide (192 ≤ (wrap64 (bt a0 (ji17)))) = false := decide_eq_false c22
                              clear c22
                              have H' := Aside0.mk H
                              clear H
                              have p20 : 0 ≤ ((ji17) : Int) := of_decide_eq_true (by first | (with_reducible assumption) | assumption)
                              have q20 : (ji17) < (a0.size : Int) := of_decide_eq_true (by first | (with_reducible assumption) | assumption)
                              have hx20 := bt_at a0 (ji17)
                              replace p20 := eq_true p20
                              replace q20 := eq_true q20
                              go_wp2
                              go_roundg k3
                              case measure => have := HK1.out; have := HJ4.out; have := HK3.out; omega
                              case rel => exact ⟨(wrap64 ((wrap64 ((wrap64 (x7_3 * 64)) + (wrap64 (bt a0 (ji17))))) - 128)), (wrap64 (x8_3 + 1)), (by first | rfl | (simp; done) | (simp only [← hji17] <;> (first | rfl | simp)) | (simp [*]; done)), (by first | rfl | (simp; done) | (simp [*]; done)), H', ⟨by have := HK1.out; have := HJ4.out; have := HK3.out; omega⟩, by repeat (first | exact Drawn0.refl _ | apply Drawn0.step)⟩
                        · rw [if_neg c19] at H
                          exact absurd H (by simp)
                      · rw [if_neg c18] at H
                        exact absurd H (by simp)
                    · rw [if_neg c16] at H
                      have c16b0 : decide (x8_3 < x5_4) = false := decide_eq_false c16
                      clear c16
                      by_cases c23 : x7_3 < x6_4
                      · rw [if_pos c23] at H
                        have c23b0 : decide (x7_3 < x6_4) = true := decide_eq_true c23
                        clear c23
                        obtain rfl := Option.some.inj H
                        go_wp2
                        go_ret
                        exact ⟨by first | rfl | (simp; done) | (simp [*]; done), by repeat (first | exact Drawn0.refl _ | apply Drawn0.step)⟩
                      · rw [if_neg c23] at H
                        have c23b0 : decide (x7_3 < x6_4) = false := decide_eq_false c23
                        clear c23
                        by_cases c24 : x7_3 > 1114111
                        · rw [if_pos c24] at H
                          have c24b0 : decide (1114111 < x7_3) = true := decide_eq_true c24
                          clear c24
                          obtain rfl := Option.some.inj H
                          go_wp2
                          go_ret
                          exact ⟨by first | rfl | (simp; done) | (simp [*]; done), by repeat (first | exact Drawn0.refl _ | apply Drawn0.step)⟩
                        · rw [if_neg c24] at H
                          have c24b0 : decide (1114111 < x7_3) = false := decide_eq_false c24
                          clear c24
                          by_cases c25 : x7_3 ≥ 55296
                          · rw [if_pos c25] at H
                            have c25b0 : decide (55296 ≤ x7_3) = true := decide_eq_true c25
                            clear c25
                            by_cases c26 : x7_3 < 57344
                            · rw [if_pos c26] at H
                              have c26b0 : decide (x7_3 < 57344) = true := decide_eq_true c26
                              clear c26
                              obtain rfl := Option.some.inj H
                              go_wp2
                              go_ret
                              exact ⟨by first | rfl | (simp; done) | (simp [*]; done), by repeat (first | exact Drawn0.refl _ | apply Drawn0.step)⟩
                            · rw [if_neg c26] at H
                              have c26b0 : decide (x7_3 < 57344) = false := decide_eq_false c26
                              clear c26
                              have H' := Aside0.mk H
                              clear H
                              go_wp2
                              go_roundg k3
                              case measure => have := HK1.out; have := HJ4.out; have := HK3.out; omega
                              case rel => exact ⟨(wrap64 (x3_1 + x5_4)), (by first | rfl | (simp; done) | (simp [*]; done)), H', ⟨by have := HK1.out; have := HJ4.out; have := HK3.out; omega⟩, by repeat (first | exact Drawn0.refl _ | apply Drawn0.step)⟩
                          · rw [if_neg c25] at H
                            have c25b0 : decide (55296 ≤ x7_3) = false := decide_eq_false c25
                            clear c25
                            have H' := Aside0.mk H
                            clear H
                            go_wp2
                            go_roundg k3
                            case measure => have := HK1.out; have := HJ4.out; have := HK3.out; omega
                            case rel => exact ⟨(wrap64 (x3_1 + x5_4)), (by first | rfl | (simp; done) | (simp [*]; done)), H', ⟨by have := HK1.out; have := HJ4.out; have := HK3.out; omega⟩, by repeat (first | exact Drawn0.refl _ | apply Drawn0.step)⟩
        · rw [if_neg c3] at H
          exact absurd H (by simp)
      · rw [if_neg c2] at H
        have c2b0 : decide (x3_1 < (a0.size : Int)) = false := decide_eq_false c2
        clear c2
        obtain rfl := Option.some.inj H
        go_wp2
        go_ret
        exact ⟨by first | rfl | (simp; done) | (simp [*]; done), by repeat (first | exact Drawn0.refl _ | apply Drawn0.step)⟩

end Go.Proofs.YthfialcaddjjaaaDoor.PValueShows
