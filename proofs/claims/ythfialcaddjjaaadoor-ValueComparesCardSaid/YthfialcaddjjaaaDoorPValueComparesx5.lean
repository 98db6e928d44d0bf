-- made by this session's own program (wip/tools/xprint.py) with the kit's printer's help; checked by Lean alone
import Derived.Test.YthfialcaddjjaaaDoorPValueComparesx0
import Derived.Test.YthfialcaddjjaaaDoorPValueComparesx3
import Derived.Test.YthfialcaddjjaaaDoorPValueComparesx4
namespace Go.Proofs.YthfialcaddjjaaaDoor.PValueCompares
open Go.RowKit Go.Proofs.YthfialcaddjjaaaDoorW.PrintWords Go.Proofs.YthfialcaddjjaaaDoorW.PrintLast Go.Proofs.YthfialcaddjjaaaDoorW.PrintMore
attribute [local go_sem] max2_int min2_int max_two min_two max_three min_three max_four min_four   -- for this text's walks alone
set_option linter.unusedVariables false
set_option linter.unusedSimpArgs false

/-! ### value_Show: function 11 -/
def value_Show.f (a0_0 a0_1 : Int) (a0_2 : ByteArray) : Option ByteArray :=
  (value_Check.f a0_0 a0_1 a0_2).bind fun c =>
    if c = 0 then
      (if a0_0 = 1 then some (if a0_1 = 1 then (⟨#[116, 114, 117, 101]⟩ : ByteArray) else ⟨#[102, 97, 108, 115, 101]⟩)
       else if a0_0 = 2 then strconv_Itoa.f a0_1
       else if a0_0 = 3 then value_decimal.f a0_1
       else if a0_0 = 4 then (strings_ReplaceAll.f a0_2 ⟨#[39]⟩ ⟨#[39, 39]⟩).bind fun t => if t.size ≤ 140737488355328 then some (⟨#[39]⟩ ++ t ++ ⟨#[39]⟩) else none
       else some ⟨#[110, 117, 108, 108]⟩)
    else some ⟨#[]⟩
set_option maxHeartbeats 8000000 in
set_option maxRecDepth 100000 in
theorem value_Show.calls (a0_0 a0_1 : Int) (a0_2 : ByteArray) (r : ByteArray) (w : World) (hG : Laid w) (h : value_Show.f a0_0 a0_1 a0_2 = some r) :
    Calls Tryd.prog 11 #[.agg #[.int .i64 a0_0, .int .i64 a0_1, .string a0_2]] w fun e w' => e = .returned (.string r) ∧ Below w.heap.size w w' := by
  have hb0 : Below w.heap.size w (w.alloc (.cells #[.int .i64 a0_0, .int .i64 a0_1, .string a0_2] 23)) := (Below.refl _ _).alloc (Nat.le_refl _) _
  unfold value_Show.f at h
  replace h := Option.bind_eq_some_iff.1 h
  obtain ⟨c, hc, h⟩ := h
  have hl := hG.below hb0
  have CK := Lib.hid (value_Check.calls a0_0 a0_1 a0_2 c _ hl hc)
  have HB := Lib.hid hb0
  have HL := Lib.hid hl
  have HC := Lib.hid hc
  clear hl hG hb0 hc
  by_cases c0 : c = 0
  · subst c0
    rw [if_pos rfl] at h
    by_cases k1 : a0_0 = 1
    · subst k1
      rw [if_pos rfl] at h
      by_cases n1 : a0_1 = 1
      all_goals
        first
          | (subst n1; rw [if_pos rfl] at h)
          | (rw [if_neg n1] at h; have n1b : (a0_1 == 1) = false := by simpa using n1)
        try clear n1
        obtain rfl := Option.some.inj h
        clear h
        go_enter Tryd.func11, Tryd.ntmps11
        go_wp2_with fail
        refine CK.out.mono ?_
        rintro e w1 ⟨rfl, hb1⟩
        have HB1 := Lib.hid (HB.out.trans (hb1.mono (by simp)))
        have q0 : w1.cell? ⟨w.heap.size, 0, none⟩ = some (.int .i64 1) := (hb1.cell (p := ⟨w.heap.size, 0, none⟩) (by simp)).trans (World.cell?_alloc_new _ _ _ _)
        have q1 := (hb1.cell (p := ⟨w.heap.size, 1, none⟩) (by simp)).trans (World.cell?_alloc_new _ _ _ _)
        simp at q1
        clear hb1
        go_wp2
        go_ret
        exact ⟨rfl, HB1.out⟩
    rw [if_neg k1] at h
    by_cases k2 : a0_0 = 2
    · subst k2
      rw [if_pos rfl] at h
      clear k1
      go_enter Tryd.func11, Tryd.ntmps11
      go_wp2_with fail
      refine CK.out.mono ?_
      rintro e w1 ⟨rfl, hb1⟩
      have HB1 := Lib.hid (HB.out.trans (hb1.mono (by simp)))
      have HL1 := Lib.hid (HL.out.below hb1)
      have q0 : w1.cell? ⟨w.heap.size, 0, none⟩ = some (.int .i64 2) := (hb1.cell (p := ⟨w.heap.size, 0, none⟩) (by simp)).trans (World.cell?_alloc_new _ _ _ _)
      have q1 : w1.cell? ⟨w.heap.size, 1, none⟩ = some (.int .i64 a0_1) := (hb1.cell (p := ⟨w.heap.size, 1, none⟩) (by simp)).trans (World.cell?_alloc_new _ _ _ _)
      have q2 : w1.cell? ⟨w.heap.size, 2, none⟩ = some (.string a0_2) := (hb1.cell (p := ⟨w.heap.size, 2, none⟩) (by simp)).trans (World.cell?_alloc_new _ _ _ _)
      clear hb1
      have CC := Lib.hid (strconv_Itoa.calls a0_1 r w1 HL1.out h)
      clear h
      go_wp2_with fail
      refine CC.out.mono ?_
      rintro e w2 ⟨rfl, hb2⟩
      have HB2 := Lib.hid (HB1.out.trans (hb2.mono HB1.out.size))
      clear hb2
      go_wp2
      go_ret
      exact ⟨rfl, HB2.out⟩
    rw [if_neg k2] at h
    by_cases k3 : a0_0 = 3
    · subst k3
      rw [if_pos rfl] at h
      clear k1 k2
      go_enter Tryd.func11, Tryd.ntmps11
      go_wp2_with fail
      refine CK.out.mono ?_
      rintro e w1 ⟨rfl, hb1⟩
      have HB1 := Lib.hid (HB.out.trans (hb1.mono (by simp)))
      have HL1 := Lib.hid (HL.out.below hb1)
      have q0 : w1.cell? ⟨w.heap.size, 0, none⟩ = some (.int .i64 3) := (hb1.cell (p := ⟨w.heap.size, 0, none⟩) (by simp)).trans (World.cell?_alloc_new _ _ _ _)
      have q1 : w1.cell? ⟨w.heap.size, 1, none⟩ = some (.int .i64 a0_1) := (hb1.cell (p := ⟨w.heap.size, 1, none⟩) (by simp)).trans (World.cell?_alloc_new _ _ _ _)
      have q2 : w1.cell? ⟨w.heap.size, 2, none⟩ = some (.string a0_2) := (hb1.cell (p := ⟨w.heap.size, 2, none⟩) (by simp)).trans (World.cell?_alloc_new _ _ _ _)
      clear hb1
      have CC := Lib.hid (value_decimal.calls a0_1 r w1 HL1.out h)
      clear h
      go_wp2_with fail
      refine CC.out.mono ?_
      rintro e w2 ⟨rfl, hb2⟩
      have HB2 := Lib.hid (HB1.out.trans (hb2.mono HB1.out.size))
      clear hb2
      go_wp2
      go_ret
      exact ⟨rfl, HB2.out⟩
    rw [if_neg k3] at h
    by_cases k4 : a0_0 = 4
    · subst k4
      rw [if_pos rfl] at h
      clear k1 k2 k3
      go_enter Tryd.func11, Tryd.ntmps11
      go_wp2_with fail
      refine CK.out.mono ?_
      rintro e w1 ⟨rfl, hb1⟩
      have HB1 := Lib.hid (HB.out.trans (hb1.mono (by simp)))
      have HL1 := Lib.hid (HL.out.below hb1)
      have q0 : w1.cell? ⟨w.heap.size, 0, none⟩ = some (.int .i64 4) := (hb1.cell (p := ⟨w.heap.size, 0, none⟩) (by simp)).trans (World.cell?_alloc_new _ _ _ _)
      have q1 : w1.cell? ⟨w.heap.size, 1, none⟩ = some (.int .i64 a0_1) := (hb1.cell (p := ⟨w.heap.size, 1, none⟩) (by simp)).trans (World.cell?_alloc_new _ _ _ _)
      have q2 : w1.cell? ⟨w.heap.size, 2, none⟩ = some (.string a0_2) := (hb1.cell (p := ⟨w.heap.size, 2, none⟩) (by simp)).trans (World.cell?_alloc_new _ _ _ _)
      clear hb1
      replace h := Option.bind_eq_some_iff.1 h
      obtain ⟨t, ht, h⟩ := h
      split at h; rotate_left; · cases h
      rename_i hsz
      obtain rfl := Option.some.inj h
      have CC := Lib.hid (strings_ReplaceAll.calls a0_2 ⟨#[39]⟩ ⟨#[39, 39]⟩ t w1 HL1.out ht)
      clear h ht
      go_wp2_with fail
      refine CC.out.mono ?_
      rintro e w2 ⟨rfl, hb2⟩
      have HB2 := Lib.hid (HB1.out.trans (hb2.mono HB1.out.size))
      clear hb2
      go_wp2
      go_ret
      exact ⟨rfl, HB2.out⟩
    rw [if_neg k4] at h
    obtain rfl := Option.some.inj h
    have k1b : (a0_0 == 1) = false := by simpa using k1
    have k2b : (a0_0 == 2) = false := by simpa using k2
    have k3b : (a0_0 == 3) = false := by simpa using k3
    have k4b : (a0_0 == 4) = false := by simpa using k4
    clear h k1 k2 k3 k4
    go_enter Tryd.func11, Tryd.ntmps11
    go_wp2_with fail
    refine CK.out.mono ?_
    rintro e w1 ⟨rfl, hb1⟩
    have HB1 := Lib.hid (HB.out.trans (hb1.mono (by simp)))
    have q0 : w1.cell? ⟨w.heap.size, 0, none⟩ = some (.int .i64 a0_0) := (hb1.cell (p := ⟨w.heap.size, 0, none⟩) (by simp)).trans (World.cell?_alloc_new _ _ _ _)
    clear hb1
    go_wp2
    go_ret
    exact ⟨rfl, HB1.out⟩
  · rw [if_neg c0] at h
    obtain rfl := Option.some.inj h
    have c0b : (c == 0) = false := by simpa using c0
    have c0n : (c != 0) = true := by simpa using c0
    clear h c0
    go_enter Tryd.func11, Tryd.ntmps11
    go_wp2_with fail
    refine CK.out.mono ?_
    rintro e w1 ⟨rfl, hb1⟩
    have HB1 := Lib.hid (HB.out.trans (hb1.mono (by simp)))
    clear hb1
    go_wp2
    go_ret
    exact ⟨rfl, HB1.out⟩

/-! ### marqueelaw01_awake: function 13 -/
def marqueelaw01_awake.f : Option Bool := some true
/-- What the boxes hold, and what is new alone is written. -/
abbrev marqueelaw01_awake.F (w W : World) : Prop :=
  (W.cell? ⟨w.heap.size, 0, none⟩ = some (.int .i64 0) ∧ W.cell? ⟨w.heap.size, 1, none⟩ = some (.int .i64 0) ∧ W.cell? ⟨w.heap.size, 2, none⟩ = some (.string ⟨#[]⟩)) ∧
  (W.cell? ⟨w.heap.size + 1, 0, none⟩ = some (.int .i64 1) ∧ W.cell? ⟨w.heap.size + 1, 1, none⟩ = some (.int .i64 1) ∧ W.cell? ⟨w.heap.size + 1, 2, none⟩ = some (.string ⟨#[]⟩)) ∧
  Hid (Laid W ∧ Below w.heap.size w W)
theorem marqueelaw01_awake.on {w W W' : World} (h : marqueelaw01_awake.F w W) (hb : Below W.heap.size W W') : marqueelaw01_awake.F w W' := by
  obtain ⟨⟨a0, a1, a2⟩, ⟨b0, b1, b2⟩, hh⟩ := h
  obtain ⟨h1, h2⟩ := hh.out
  refine ⟨⟨?_, ?_, ?_⟩, ⟨?_, ?_, ?_⟩, Lib.hid ⟨h1.below hb, h2.trans (hb.mono h2.size)⟩⟩
  · exact (hb.cell (World.block_lt_of_cell? _ _ a0)).trans a0
  · exact (hb.cell (World.block_lt_of_cell? _ _ a1)).trans a1
  · exact (hb.cell (World.block_lt_of_cell? _ _ a2)).trans a2
  · exact (hb.cell (World.block_lt_of_cell? _ _ b0)).trans b0
  · exact (hb.cell (World.block_lt_of_cell? _ _ b1)).trans b1
  · exact (hb.cell (World.block_lt_of_cell? _ _ b2)).trans b2
theorem marqueelaw01_awake.drawn {w W : World} (h : marqueelaw01_awake.F w W) : marqueelaw01_awake.F w W.drew := marqueelaw01_awake.on h (below_drew1 (Below.refl _ _))
set_option maxHeartbeats 8000000 in
set_option maxRecDepth 100000 in
theorem marqueelaw01_awake.calls (r : Bool) (w : World) (hG : Laid w) (h : marqueelaw01_awake.f = some r) :
    Calls Tryd.prog 13 #[] w fun e w' => e = .returned (.bool r) ∧ Below w.heap.size w w' := by
  obtain rfl := Option.some.inj h
  clear h
  have HG := Lib.hid hG
  clear hG
  go_enter Tryd.func13, Tryd.ntmps13
  go_wp2_with fail
  refine (value_Compare.calls 3 2 1 ⟨#[]⟩ 3 15000 ⟨#[]⟩ (-1) true _ (by kernel_rfl)).mono ?_
  rintro e w1 ⟨rfl, hb1⟩
  have hs : marqueelaw01_awake.F w w1 := by
    have k1 : Below w.heap.size w w1 := (((Below.refl _ _).alloc (Nat.le_refl _) _).alloc (by simp) _).trans (hb1.mono (by simp; omega))
    have hc := fun (i : Nat) => hb1.cell (p := ⟨w.heap.size, i, none⟩) (by simp; omega)
    have hd := fun (i : Nat) => hb1.cell (p := ⟨w.heap.size + 1, i, none⟩) (by simp)
    refine ⟨⟨(hc 0).trans ?_, (hc 1).trans ?_, (hc 2).trans ?_⟩, ⟨(hd 0).trans ?_, (hd 1).trans ?_, (hd 2).trans ?_⟩, Lib.hid ⟨HG.out.below k1, k1⟩⟩
    all_goals first | (go_simp; done) | (simp; done)
  clear hb1
  go_wp2_with fail
  go_region_held3 (fun W => marqueelaw01_awake.F w W) (first | exact marqueelaw01_awake.drawn ‹_› | exact marqueelaw01_awake.on ‹_› ‹_›)
    (first
      | (go_at_call 14; refine (value_Not.calls 1 1 ⟨#[]⟩ 1 0 ⟨#[]⟩ _ (by kernel_rfl)).mono ?_; rintro e w' ⟨rfl, hb⟩)
      | (go_at_call 15; refine (value_And.calls 0 0 ⟨#[]⟩ 1 0 ⟨#[]⟩ 1 0 ⟨#[]⟩ _ (by kernel_rfl)).mono ?_; rintro e w' ⟨rfl, hb⟩)
      | (go_at_call 16; refine (value_Or.calls 0 0 ⟨#[]⟩ 1 1 ⟨#[]⟩ 1 1 ⟨#[]⟩ _ (by kernel_rfl)).mono ?_; rintro e w' ⟨rfl, hb⟩)
      | (go_at_call 11; (with_reducible refine (value_Show.calls 3 15000 ⟨#[]⟩ ⟨#[49, 46, 53]⟩ _ ?g (by kernel_rfl)).mono ?_); (case g => exact (‹marqueelaw01_awake.F w _›).2.2.out.1); rintro e w' ⟨rfl, hb⟩)
      | (go_at_call 11; (with_reducible refine (value_Show.calls 4 0 ⟨#[105, 116, 39, 115]⟩ ⟨#[39, 105, 116, 39, 39, 115, 39]⟩ _ ?g (by kernel_rfl)).mono ?_); (case g => exact (‹marqueelaw01_awake.F w _›).2.2.out.1); rintro e w' ⟨rfl, hb⟩)
      | (go_at_call 9; (with_reducible refine (value_Check.calls 9 0 ⟨#[]⟩ 1 _ ?g (by kernel_rfl)).mono ?_); (case g => exact (‹marqueelaw01_awake.F w _›).2.2.out.1); rintro e w' ⟨rfl, hb⟩))
  all_goals
    rename_i hF
    go_wp2
    go_ret
    exact ⟨rfl, hF.2.2.out.2⟩

end Go.Proofs.YthfialcaddjjaaaDoor.PValueCompares
