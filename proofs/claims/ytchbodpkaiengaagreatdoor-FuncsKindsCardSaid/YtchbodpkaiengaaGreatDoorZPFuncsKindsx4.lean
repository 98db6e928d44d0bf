/- A part of the proof of this claim. No condition beyond those that each theorem names. -/
import Derived.Test.YtchbodpkaiengaaGreatDoorZPFuncsKindsx0
import Derived.Test.YtchbodpkaiengaaGreatDoorZPFuncsKindsx3
namespace Go.Proofs.YtchbodpkaiengaaGreatDoor.PFuncsKinds
open Go.RowKit Go.Proofs.YtchbodpkaiengaaGreatDoorW.PrintWords Go.Proofs.YtchbodpkaiengaaGreatDoorW.PrintLast Go.Proofs.YtchbodpkaiengaaGreatDoorW.PrintMore
attribute [local go_sem] max2_int min2_int max_two min_two max_three min_three max_four min_four
set_option linter.unusedVariables false
set_option linter.unusedSimpArgs false
mutual
def marqueeref10_Kind.l0 : Nat → ByteArray → List Int → Int → Int → Option (Int × Int)
  | 0, _, _, _, _ => none
  | k + 1, x0, x1, x6, x7 => if x7 < x6 then (if 0 ≤ x7 then (if x7 < (x1.length : Int) then ((marqueeref10_kindOk.f (rd x1 x7)).bind fun t172 => (if t172 = true then (marqueeref10_Kind.l0 k x0 x1 x6 (wrap64 (x7 + 1))) else (some (0, 100)))) else (none)) else (none)) else (if x0.toList = ([97, 98, 115] : List UInt8) then (if x6 = 1 then (if 0 < (x1.length : Int) then ((marqueeref10_num.f (rd x1 0)).bind fun t174 => (if t174 = true then (some (rd x1 0, 0)) else (some (0, 100)))) else (none)) else (some (0, 100))) else (if x0.toList = ([99, 101, 105, 108] : List UInt8) then (marqueeref10_Kind.j1 k x1 x6 false 0 x0 (x0.toList == ([99, 101, 105, 108] : List UInt8))) else (if x0.toList = ([102, 108, 111, 111, 114] : List UInt8) then (marqueeref10_Kind.j1 k x1 x6 false 0 x0 (x0.toList == ([102, 108, 111, 111, 114] : List UInt8))) else (if x0.toList = ([114, 111, 117, 110, 100] : List UInt8) then (marqueeref10_Kind.j1 k x1 x6 false 0 x0 (x0.toList == ([114, 111, 117, 110, 100] : List UInt8))) else (if x0.toList = ([115, 105, 103, 110] : List UInt8) then (marqueeref10_Kind.j1 k x1 x6 false 0 x0 (x0.toList == ([115, 105, 103, 110] : List UInt8))) else (marqueeref10_Kind.j1 k x1 x6 false 0 x0 (x0.toList == ([116, 111, 105, 110, 116] : List UInt8))))))))
def marqueeref10_Kind.j1 : Nat → List Int → Int → Bool → Int → ByteArray → Bool → Option (Int × Int)
  | 0, _, _, _, _, _, _ => none
  | k + 1, x1, x6, x8, x9, x24, x36 => if x36 = true then (if x6 = 1 then (if 0 < (x1.length : Int) then ((marqueeref10_num.f (rd x1 0)).bind fun t177 => (if t177 = true then (some (2, 0)) else (some (0, 100)))) else (none)) else (some (0, 100))) else (if x24.toList = ([116, 111, 100, 101, 99] : List UInt8) then (if x6 = 1 then (if 0 < (x1.length : Int) then ((marqueeref10_num.f (rd x1 0)).bind fun t179 => (if t179 = true then (some (3, 0)) else (some (0, 100)))) else (none)) else (some (0, 100))) else (if x24.toList = ([99, 111, 97, 108, 101, 115, 99, 101] : List UInt8) then (marqueeref10_Kind.j2 k x1 x6 x8 x9 x24 (x24.toList == ([99, 111, 97, 108, 101, 115, 99, 101] : List UInt8))) else (if x24.toList = ([103, 114, 101, 97, 116, 101, 115, 116] : List UInt8) then (marqueeref10_Kind.j2 k x1 x6 x8 x9 x24 (x24.toList == ([103, 114, 101, 97, 116, 101, 115, 116] : List UInt8))) else (marqueeref10_Kind.j2 k x1 x6 x8 x9 x24 (x24.toList == ([108, 101, 97, 115, 116] : List UInt8))))))
def marqueeref10_Kind.j2 : Nat → List Int → Int → Bool → Int → ByteArray → Bool → Option (Int × Int)
  | 0, _, _, _, _, _, _ => none
  | k + 1, x1, x6, x8, x9, x24, x60 => if x60 = true then ((marqueeref10_alike.f k x1).bind fun bt180 => (if bt180.2 = true then (if x6 ≥ 1 then (some (bt180.1, 0)) else (some (0, 100))) else (some (0, 100)))) else (if x24.toList = ([99, 111, 110, 99, 97, 116] : List UInt8) then (marqueeref10_Kind.l1 k x1 x6 (decide (x6 ≥ 1)) 4 0) else (if x24.toList = ([108, 101, 110, 103, 116, 104] : List UInt8) then (if x6 = 1 then (if 0 < (x1.length : Int) then ((marqueeref10_text.f (rd x1 0)).bind fun t185 => (if t185 = true then (some (2, 0)) else (some (0, 100)))) else (none)) else (some (0, 100))) else (if x24.toList = ([108, 111, 119, 101, 114] : List UInt8) then (marqueeref10_Kind.j4 k x1 x6 x8 x9 x24 (x24.toList == ([108, 111, 119, 101, 114] : List UInt8))) else (if x24.toList = ([116, 114, 105, 109] : List UInt8) then (marqueeref10_Kind.j4 k x1 x6 x8 x9 x24 (x24.toList == ([116, 114, 105, 109] : List UInt8))) else (marqueeref10_Kind.j4 k x1 x6 x8 x9 x24 (x24.toList == ([117, 112, 112, 101, 114] : List UInt8)))))))
def marqueeref10_Kind.l1 : Nat → List Int → Int → Bool → Int → Int → Option (Int × Int)
  | 0, _, _, _, _, _ => none
  | k + 1, x1, x6, x8, x9, x10 => if x10 < x6 then (if x8 = true then (if 0 ≤ x10 then (if x10 < (x1.length : Int) then ((marqueeref10_text.f (rd x1 x10)).bind fun t183 => (marqueeref10_Kind.l1 k x1 x6 t183 x9 (wrap64 (x10 + 1)))) else (none)) else (none)) else (marqueeref10_Kind.l1 k x1 x6 false x9 (wrap64 (x10 + 1)))) else (if x8 = true then (some (x9, 0)) else (some (0, 100)))
def marqueeref10_Kind.j4 : Nat → List Int → Int → Bool → Int → ByteArray → Bool → Option (Int × Int)
  | 0, _, _, _, _, _, _ => none
  | k + 1, x1, x6, x8, x9, x24, x101 => if x101 = true then (if x6 = 1 then (if 0 < (x1.length : Int) then ((marqueeref10_text.f (rd x1 0)).bind fun t187 => (if t187 = true then (some (4, 0)) else (some (0, 100)))) else (none)) else (some (0, 100))) else (if x24.toList = ([110, 117, 108, 108, 105, 102] : List UInt8) then ((marqueeref10_alike.f k x1).bind fun bt188 => (if bt188.2 = true then (marqueeref10_Kind.j5 k x1 (x6 == 2)) else (marqueeref10_Kind.j5 k x1 false))) else (if x24.toList = ([115, 117, 98, 115, 116, 114] : List UInt8) then (if x6 = 3 then (if 0 < (x1.length : Int) then ((marqueeref10_text.f (rd x1 0)).bind fun t192 => (if t192 = true then (if 1 < (x1.length : Int) then ((marqueeref10_whole.f (rd x1 1)).bind fun t194 => (if t194 = true then (if 2 < (x1.length : Int) then ((marqueeref10_whole.f (rd x1 2)).bind fun t196 => (if t196 = true then (some (4, 0)) else (some (0, 100)))) else (none)) else (some (0, 100)))) else (none)) else (some (0, 100)))) else (none)) else (some (0, 100))) else (if x24.toList = ([116, 111, 116, 101, 120, 116] : List UInt8) then (if x6 = 1 then (some (4, 0)) else (some (0, 100))) else (if x8 = true then (some (x9, 0)) else (some (0, 100))))))
def marqueeref10_Kind.j5 : Nat → List Int → Bool → Option (Int × Int)
  | 0, _, _ => none
  | k + 1, x1, x8 => if x8 = true then (if 0 < (x1.length : Int) then (some (rd x1 0, 0)) else (none)) else (some (0, 100))
end
def marqueeref10_Kind.f (k : Nat) (a0 : ByteArray) (l1 : List Int) : Option (Int × Int) := marqueeref10_Kind.l0 k a0 l1 (l1.length : Int) 0
theorem marqueeref10_Kind.mono_l : ∀ k, (∀ y0 y1 y2 y3, LeO (marqueeref10_Kind.l0 k y0 y1 y2 y3) (marqueeref10_Kind.l0 (k + 1) y0 y1 y2 y3)) ∧ (∀ y0 y1 y2 y3 y4 y5, LeO (marqueeref10_Kind.j1 k y0 y1 y2 y3 y4 y5) (marqueeref10_Kind.j1 (k + 1) y0 y1 y2 y3 y4 y5)) ∧ (∀ y0 y1 y2 y3 y4 y5, LeO (marqueeref10_Kind.j2 k y0 y1 y2 y3 y4 y5) (marqueeref10_Kind.j2 (k + 1) y0 y1 y2 y3 y4 y5)) ∧ (∀ y0 y1 y2 y3 y4, LeO (marqueeref10_Kind.l1 k y0 y1 y2 y3 y4) (marqueeref10_Kind.l1 (k + 1) y0 y1 y2 y3 y4)) ∧ (∀ y0 y1 y2 y3 y4 y5, LeO (marqueeref10_Kind.j4 k y0 y1 y2 y3 y4 y5) (marqueeref10_Kind.j4 (k + 1) y0 y1 y2 y3 y4 y5)) ∧ (∀ y0 y1, LeO (marqueeref10_Kind.j5 k y0 y1) (marqueeref10_Kind.j5 (k + 1) y0 y1))
  | 0 => ⟨fun _ _ _ _ r h => by simp [marqueeref10_Kind.l0] at h, fun _ _ _ _ _ _ r h => by simp [marqueeref10_Kind.j1] at h, fun _ _ _ _ _ _ r h => by simp [marqueeref10_Kind.j2] at h, fun _ _ _ _ _ r h => by simp [marqueeref10_Kind.l1] at h, fun _ _ _ _ _ _ r h => by simp [marqueeref10_Kind.j4] at h, fun _ _ r h => by simp [marqueeref10_Kind.j5] at h⟩
  | k + 1 => by
    obtain ⟨ih0, ih1, ih2, ih3, ih4, ih5⟩ := marqueeref10_Kind.mono_l k
    refine ⟨?_, ?_, ?_, ?_, ?_, ?_⟩
    · intro y0 y1 y2 y3
      unfold marqueeref10_Kind.l0
      repeat' first
      | (with_reducible exact ih0 _ _ _ _)
      | (with_reducible exact ih1 _ _ _ _ _ _)
      | (with_reducible exact ih2 _ _ _ _ _ _)
      | (with_reducible exact ih3 _ _ _ _ _)
      | (with_reducible exact ih4 _ _ _ _ _ _)
      | (with_reducible exact ih5 _ _)
      | (with_reducible exact marqueeref10_alike.mono _ _)
      | (with_reducible exact LeO.refl _)
      | (with_reducible exact LeO.none _)
      | (with_reducible refine LeO.ite ?_ ?_)
      | (with_reducible refine LeO.bind ?_ (fun _ => ?_))
      | exact ih0 _ _ _ _
      | exact ih1 _ _ _ _ _ _
      | exact ih2 _ _ _ _ _ _
      | exact ih3 _ _ _ _ _
      | exact ih4 _ _ _ _ _ _
      | exact ih5 _ _
      | exact marqueeref10_alike.mono _ _
      | exact LeO.none _
      | refine LeO.ite ?_ ?_
      | refine LeO.bind ?_ (fun _ => ?_)
    · intro y0 y1 y2 y3 y4 y5
      unfold marqueeref10_Kind.j1
      repeat' first
      | (with_reducible exact ih0 _ _ _ _)
      | (with_reducible exact ih1 _ _ _ _ _ _)
      | (with_reducible exact ih2 _ _ _ _ _ _)
      | (with_reducible exact ih3 _ _ _ _ _)
      | (with_reducible exact ih4 _ _ _ _ _ _)
      | (with_reducible exact ih5 _ _)
      | (with_reducible exact marqueeref10_alike.mono _ _)
      | (with_reducible exact LeO.refl _)
      | (with_reducible exact LeO.none _)
      | (with_reducible refine LeO.ite ?_ ?_)
      | (with_reducible refine LeO.bind ?_ (fun _ => ?_))
      | exact ih0 _ _ _ _
      | exact ih1 _ _ _ _ _ _
      | exact ih2 _ _ _ _ _ _
      | exact ih3 _ _ _ _ _
      | exact ih4 _ _ _ _ _ _
      | exact ih5 _ _
      | exact marqueeref10_alike.mono _ _
      | exact LeO.none _
      | refine LeO.ite ?_ ?_
      | refine LeO.bind ?_ (fun _ => ?_)
    · intro y0 y1 y2 y3 y4 y5
      unfold marqueeref10_Kind.j2
      repeat' first
      | (with_reducible exact ih0 _ _ _ _)
      | (with_reducible exact ih1 _ _ _ _ _ _)
      | (with_reducible exact ih2 _ _ _ _ _ _)
      | (with_reducible exact ih3 _ _ _ _ _)
      | (with_reducible exact ih4 _ _ _ _ _ _)
      | (with_reducible exact ih5 _ _)
      | (with_reducible exact marqueeref10_alike.mono _ _)
      | (with_reducible exact LeO.refl _)
      | (with_reducible exact LeO.none _)
      | (with_reducible refine LeO.ite ?_ ?_)
      | (with_reducible refine LeO.bind ?_ (fun _ => ?_))
      | exact ih0 _ _ _ _
      | exact ih1 _ _ _ _ _ _
      | exact ih2 _ _ _ _ _ _
      | exact ih3 _ _ _ _ _
      | exact ih4 _ _ _ _ _ _
      | exact ih5 _ _
      | exact marqueeref10_alike.mono _ _
      | exact LeO.none _
      | refine LeO.ite ?_ ?_
      | refine LeO.bind ?_ (fun _ => ?_)
    · intro y0 y1 y2 y3 y4
      unfold marqueeref10_Kind.l1
      repeat' first
      | (with_reducible exact ih0 _ _ _ _)
      | (with_reducible exact ih1 _ _ _ _ _ _)
      | (with_reducible exact ih2 _ _ _ _ _ _)
      | (with_reducible exact ih3 _ _ _ _ _)
      | (with_reducible exact ih4 _ _ _ _ _ _)
      | (with_reducible exact ih5 _ _)
      | (with_reducible exact marqueeref10_alike.mono _ _)
      | (with_reducible exact LeO.refl _)
      | (with_reducible exact LeO.none _)
      | (with_reducible refine LeO.ite ?_ ?_)
      | (with_reducible refine LeO.bind ?_ (fun _ => ?_))
      | exact ih0 _ _ _ _
      | exact ih1 _ _ _ _ _ _
      | exact ih2 _ _ _ _ _ _
      | exact ih3 _ _ _ _ _
      | exact ih4 _ _ _ _ _ _
      | exact ih5 _ _
      | exact marqueeref10_alike.mono _ _
      | exact LeO.none _
      | refine LeO.ite ?_ ?_
      | refine LeO.bind ?_ (fun _ => ?_)
    · intro y0 y1 y2 y3 y4 y5
      unfold marqueeref10_Kind.j4
      repeat' first
      | (with_reducible exact ih0 _ _ _ _)
      | (with_reducible exact ih1 _ _ _ _ _ _)
      | (with_reducible exact ih2 _ _ _ _ _ _)
      | (with_reducible exact ih3 _ _ _ _ _)
      | (with_reducible exact ih4 _ _ _ _ _ _)
      | (with_reducible exact ih5 _ _)
      | (with_reducible exact marqueeref10_alike.mono _ _)
      | (with_reducible exact LeO.refl _)
      | (with_reducible exact LeO.none _)
      | (with_reducible refine LeO.ite ?_ ?_)
      | (with_reducible refine LeO.bind ?_ (fun _ => ?_))
      | exact ih0 _ _ _ _
      | exact ih1 _ _ _ _ _ _
      | exact ih2 _ _ _ _ _ _
      | exact ih3 _ _ _ _ _
      | exact ih4 _ _ _ _ _ _
      | exact ih5 _ _
      | exact marqueeref10_alike.mono _ _
      | exact LeO.none _
      | refine LeO.ite ?_ ?_
      | refine LeO.bind ?_ (fun _ => ?_)
    · intro y0 y1
      unfold marqueeref10_Kind.j5
      repeat' first
      | (with_reducible exact ih0 _ _ _ _)
      | (with_reducible exact ih1 _ _ _ _ _ _)
      | (with_reducible exact ih2 _ _ _ _ _ _)
      | (with_reducible exact ih3 _ _ _ _ _)
      | (with_reducible exact ih4 _ _ _ _ _ _)
      | (with_reducible exact ih5 _ _)
      | (with_reducible exact marqueeref10_alike.mono _ _)
      | (with_reducible exact LeO.refl _)
      | (with_reducible exact LeO.none _)
      | (with_reducible refine LeO.ite ?_ ?_)
      | (with_reducible refine LeO.bind ?_ (fun _ => ?_))
      | exact ih0 _ _ _ _
      | exact ih1 _ _ _ _ _ _
      | exact ih2 _ _ _ _ _ _
      | exact ih3 _ _ _ _ _
      | exact ih4 _ _ _ _ _ _
      | exact ih5 _ _
      | exact marqueeref10_alike.mono _ _
      | exact LeO.none _
      | refine LeO.ite ?_ ?_
      | refine LeO.bind ?_ (fun _ => ?_)
theorem marqueeref10_Kind.mono : ∀ a0 a1 k, LeO (marqueeref10_Kind.f k a0 a1) (marqueeref10_Kind.f (k + 1) a0 a1) := by
  intro a0 a1 k
  obtain ⟨ih0, ih1, ih2, ih3, ih4, ih5⟩ := marqueeref10_Kind.mono_l k
  unfold marqueeref10_Kind.f
  repeat' first
      | (with_reducible exact ih0 _ _ _ _)
      | (with_reducible exact ih1 _ _ _ _ _ _)
      | (with_reducible exact ih2 _ _ _ _ _ _)
      | (with_reducible exact ih3 _ _ _ _ _)
      | (with_reducible exact ih4 _ _ _ _ _ _)
      | (with_reducible exact ih5 _ _)
      | (with_reducible exact marqueeref10_alike.mono _ _)
      | (with_reducible exact LeO.refl _)
      | (with_reducible exact LeO.none _)
      | (with_reducible refine LeO.ite ?_ ?_)
      | (with_reducible refine LeO.bind ?_ (fun _ => ?_))
      | exact ih0 _ _ _ _
      | exact ih1 _ _ _ _ _ _
      | exact ih2 _ _ _ _ _ _
      | exact ih3 _ _ _ _ _
      | exact ih4 _ _ _ _ _ _
      | exact ih5 _ _
      | exact marqueeref10_alike.mono _ _
      | exact LeO.none _
      | refine LeO.ite ?_ ?_
      | refine LeO.bind ?_ (fun _ => ?_)
set_option maxHeartbeats 8000000 in
set_option maxRecDepth 100000 in
theorem marqueeref10_Kind.calls (k : Nat) (a0 : ByteArray) (A1 : Option Addr) (c1 : Nat) (l1 : List Int) (r1 : Int) (r2 : Int) (w : World) (hr1 : Kd.C (Kd.int .i64) w A1 l1.length l1) (hc1 : l1.length ≤ c1) (h : marqueeref10_Kind.f k a0 l1 = some (r1, r2)) :
    Calls Tryz.prog 11 #[.string a0, .slice A1 l1.length c1] w fun e w' => e = .returned (.tuple #[.int .i64 r1, .int .i64 r2]) ∧ Drawn0 w w' := by
  have HR1 := Aside0.mk hr1
  have HC1 := Aside0.mk hc1
  clear hr1 hc1
  have H : (marqueeref10_Kind.l0 k a0 l1 (l1.length : Int) 0) = some (r1, r2) := h
  clear h
  have H' := Aside0.mk H
  clear H
  go_enter Tryz.func11, Tryz.ntmps11
  go_wp2
  repeat (go_quiet (fail); try go_wp2)
  go_loopg [7] k (fun kq v7 w' => ∃ (x7_1 : Int), v7 = .int .i64 x7_1 ∧ Aside0 (marqueeref10_Kind.l0 kq a0 l1 (l1.length : Int) x7_1 = some (r1, r2)) ∧ Aside0 (kq ≤ k) ∧ Drawn0 w w')
  case atStart => exact ⟨(0), (by first | rfl | (simp; done) | (simp [*]; done)), H', ⟨Nat.le_refl _⟩, by repeat (first | exact Drawn0.refl _ | apply Drawn0.step)⟩
  case round =>
    clear H'
    try clear c1
    try clear p2
    obtain ⟨x7_1, rfl, HA, HK1, ⟨m1, rfl⟩⟩ := hrel
    cases gk with
    | zero => exact absurd HA.out (by simp [marqueeref10_Kind.l0])
    | succ k1 =>
      have H := HA.out
      clear HA
      simp only [marqueeref10_Kind.l0] at H
      by_cases c3 : x7_1 < (l1.length : Int)
      · rw [if_pos c3] at H
        have c3b0 : decide (x7_1 < (l1.length : Int)) = true := decide_eq_true c3
        clear c3
        by_cases c4 : 0 ≤ x7_1
        · rw [if_pos c4] at H
          have c4b0 : decide (0 ≤ x7_1) = true := decide_eq_true c4
          clear c4
          by_cases c5 : x7_1 < (l1.length : Int)
          · rw [if_pos c5] at H
            have c5b0 : decide (x7_1 < (l1.length : Int)) = true := decide_eq_true c5
            clear c5
            replace H := Option.bind_eq_some_iff.mp H
            obtain ⟨t172, A60, H⟩ := H
            replace H : (if t172 = true then (marqueeref10_Kind.l0 k1 a0 l1 (l1.length : Int) (wrap64 (x7_1 + 1))) else (some (0, 100))) = some (r1, r2) := H
            have A6 := Aside0.mk A60
            clear A60
            by_cases c7 : t172 = true
            · subst c7
              have H1 : (marqueeref10_Kind.l0 k1 a0 l1 (l1.length : Int) (wrap64 (x7_1 + 1))) = some (r1, r2) := by rw [if_pos rfl] at H; exact H
              clear H
              have H := H1
              clear H1
              have H' := Aside0.mk H
              clear H
              have p171 : 0 ≤ (x7_1 : Int) := of_decide_eq_true (by first | (with_reducible assumption) | assumption)
              have q171 : x7_1 < (l1.length : Int) := of_decide_eq_true (by first | (with_reducible assumption) | assumption)
              obtain ⟨ad171, e171, hx171_0⟩ := Kd.at_int HR1.out x7_1 p171 q171
              cases e171
              replace p171 := eq_true p171
              replace q171 := eq_true q171
              go_wp2_with (first | (go_at_call 23; (with_reducible refine (marqueeref10_kindOk.calls (rd l1 x7_1) true _ A6.out).mono ?_); rintro e w' ⟨rfl, ⟨nd, rfl⟩⟩; (try first | exact ⟨rfl, _, World.drewN_drewN _ _ _⟩ | exact ⟨rfl, _, Eq.trans (World.drewN_drewN _ _ _) (congrArg (World.drewN _) (Nat.add_assoc _ _ _))⟩)))
              repeat (go_quiet (first | (go_at_call 23; (with_reducible refine (marqueeref10_kindOk.calls (rd l1 x7_1) true _ A6.out).mono ?_); rintro e w' ⟨rfl, ⟨nd, rfl⟩⟩; (try first | exact ⟨rfl, _, World.drewN_drewN _ _ _⟩ | exact ⟨rfl, _, Eq.trans (World.drewN_drewN _ _ _) (congrArg (World.drewN _) (Nat.add_assoc _ _ _))⟩))); try go_wp2_with (first | (go_at_call 23; (with_reducible refine (marqueeref10_kindOk.calls (rd l1 x7_1) true _ A6.out).mono ?_); rintro e w' ⟨rfl, ⟨nd, rfl⟩⟩; (try first | exact ⟨rfl, _, World.drewN_drewN _ _ _⟩ | exact ⟨rfl, _, Eq.trans (World.drewN_drewN _ _ _) (congrArg (World.drewN _) (Nat.add_assoc _ _ _))⟩))))
              go_roundg k1
              case measure => have := HK1.out; omega
              case rel => exact ⟨(wrap64 (x7_1 + 1)), (by first | rfl | (simp; done) | (simp [*]; done)), H', ⟨by have := HK1.out; omega⟩, by repeat (first | exact Drawn0.refl _ | apply Drawn0.step)⟩
            · replace c7 := Bool.eq_false_iff.mpr c7
              subst c7
              have H1 : (some (0, 100)) = some (r1, r2) := by rw [if_neg (show ¬ (false = true) by decide)] at H; exact H
              clear H
              have H := H1
              clear H1
              simp only [Option.some.injEq, Prod.mk.injEq] at H
              obtain ⟨rfl, rfl⟩ := H
              have p171 : 0 ≤ (x7_1 : Int) := of_decide_eq_true (by first | (with_reducible assumption) | assumption)
              have q171 : x7_1 < (l1.length : Int) := of_decide_eq_true (by first | (with_reducible assumption) | assumption)
              obtain ⟨ad171, e171, hx171_0⟩ := Kd.at_int HR1.out x7_1 p171 q171
              cases e171
              replace p171 := eq_true p171
              replace q171 := eq_true q171
              go_wp2_with (first | (go_at_call 23; (with_reducible refine (marqueeref10_kindOk.calls (rd l1 x7_1) false _ A6.out).mono ?_); rintro e w' ⟨rfl, ⟨nd, rfl⟩⟩; (try first | exact ⟨rfl, _, World.drewN_drewN _ _ _⟩ | exact ⟨rfl, _, Eq.trans (World.drewN_drewN _ _ _) (congrArg (World.drewN _) (Nat.add_assoc _ _ _))⟩)))
              repeat (go_quiet (first | (go_at_call 23; (with_reducible refine (marqueeref10_kindOk.calls (rd l1 x7_1) false _ A6.out).mono ?_); rintro e w' ⟨rfl, ⟨nd, rfl⟩⟩; (try first | exact ⟨rfl, _, World.drewN_drewN _ _ _⟩ | exact ⟨rfl, _, Eq.trans (World.drewN_drewN _ _ _) (congrArg (World.drewN _) (Nat.add_assoc _ _ _))⟩))); try go_wp2_with (first | (go_at_call 23; (with_reducible refine (marqueeref10_kindOk.calls (rd l1 x7_1) false _ A6.out).mono ?_); rintro e w' ⟨rfl, ⟨nd, rfl⟩⟩; (try first | exact ⟨rfl, _, World.drewN_drewN _ _ _⟩ | exact ⟨rfl, _, Eq.trans (World.drewN_drewN _ _ _) (congrArg (World.drewN _) (Nat.add_assoc _ _ _))⟩))))
              go_ret2
              exact ⟨by first | rfl | (simp; done) | (simp [*]; done), by repeat (first | exact Drawn0.refl _ | apply Drawn0.step)⟩
          · rw [if_neg c5] at H
            exact absurd H (by simp)
        · rw [if_neg c4] at H
          exact absurd H (by simp)
      · rw [if_neg c3] at H
        have c3b0 : decide (x7_1 < (l1.length : Int)) = false := decide_eq_false c3
        clear c3
        by_cases c8 : a0.toList = ([97, 98, 115] : List UInt8)
        · rw [if_pos c8] at H
          have c8b0 : (a0.toList == ([97, 98, 115] : List UInt8)) = true := beq_iff_eq.mpr c8
          have c8b1 : (a0.toList != ([97, 98, 115] : List UInt8)) = false := bne_eq_false_iff_eq.mpr c8
          clear c8
          by_cases c9 : (l1.length : Int) = 1
          · rw [if_pos c9] at H
            have c9b0 : ((l1.length : Int) == 1) = true := beq_iff_eq.mpr c9
            have c9b1 : ((l1.length : Int) != 1) = false := bne_eq_false_iff_eq.mpr c9
            clear c9
            by_cases c10 : 0 < (l1.length : Int)
            · rw [if_pos c10] at H
              have c10b0 : decide (0 < (l1.length : Int)) = true := decide_eq_true c10
              have c10b1 : decide (0 < l1.length) = true := decide_eq_true (by omega)
              clear c10
              replace H := Option.bind_eq_some_iff.mp H
              obtain ⟨t174, A110, H⟩ := H
              replace H : (if t174 = true then (some (rd l1 0, 0)) else (some (0, 100))) = some (r1, r2) := H
              have A11 := Aside0.mk A110
              clear A110
              by_cases c12 : t174 = true
              · subst c12
                have H1 : (some (rd l1 0, 0)) = some (r1, r2) := by rw [if_pos rfl] at H; exact H
                clear H
                have H := H1
                clear H1
                simp only [Option.some.injEq, Prod.mk.injEq] at H
                obtain ⟨rfl, rfl⟩ := H
                have p173 : 0 ≤ (0 : Int) := (by omega)
                have q173 : 0 < (l1.length : Int) := of_decide_eq_true (by first | (with_reducible assumption) | assumption)
                obtain ⟨ad173, e173, hx173_0⟩ := Kd.at_int HR1.out 0 p173 q173
                cases e173
                have qi173 : (0 < l1.length) = True := eq_true (by omega)
                (try rw [show ((0 : Int)).toNat = 0 from rfl] at hx173_0)
                (try rw [Addr.add_zero'] at hx173_0)
                replace p173 := eq_true p173
                replace q173 := eq_true q173
                go_wp2_with (first | (go_at_call 24; (with_reducible refine (marqueeref10_num.calls (rd l1 0) true _ A11.out).mono ?_); rintro e w' ⟨rfl, ⟨nd, rfl⟩⟩; (try first | exact ⟨rfl, _, World.drewN_drewN _ _ _⟩ | exact ⟨rfl, _, Eq.trans (World.drewN_drewN _ _ _) (congrArg (World.drewN _) (Nat.add_assoc _ _ _))⟩); have p175 : 0 ≤ (0 : Int) := (by omega); have q175 : 0 < (l1.length : Int) := of_decide_eq_true (by first | (with_reducible assumption) | assumption); obtain ⟨ad175, e175, hx175_0⟩ := Kd.at_int HR1.out 0 p175 q175; obtain rfl : ad173 = ad175 := (by injection e175); have qi175 : (0 < l1.length) = True := eq_true (by omega); (try rw [show ((0 : Int)).toNat = 0 from rfl] at hx175_0); (try rw [Addr.add_zero'] at hx175_0); replace p175 := eq_true p175; replace q175 := eq_true q175))
                repeat (go_quiet (first | (go_at_call 24; (with_reducible refine (marqueeref10_num.calls (rd l1 0) true _ A11.out).mono ?_); rintro e w' ⟨rfl, ⟨nd, rfl⟩⟩; (try first | exact ⟨rfl, _, World.drewN_drewN _ _ _⟩ | exact ⟨rfl, _, Eq.trans (World.drewN_drewN _ _ _) (congrArg (World.drewN _) (Nat.add_assoc _ _ _))⟩); have p175 : 0 ≤ (0 : Int) := (by omega); have q175 : 0 < (l1.length : Int) := of_decide_eq_true (by first | (with_reducible assumption) | assumption); obtain ⟨ad175, e175, hx175_0⟩ := Kd.at_int HR1.out 0 p175 q175; obtain rfl : ad173 = ad175 := (by injection e175); have qi175 : (0 < l1.length) = True := eq_true (by omega); (try rw [show ((0 : Int)).toNat = 0 from rfl] at hx175_0); (try rw [Addr.add_zero'] at hx175_0); replace p175 := eq_true p175; replace q175 := eq_true q175)); try go_wp2_with (first | (go_at_call 24; (with_reducible refine (marqueeref10_num.calls (rd l1 0) true _ A11.out).mono ?_); rintro e w' ⟨rfl, ⟨nd, rfl⟩⟩; (try first | exact ⟨rfl, _, World.drewN_drewN _ _ _⟩ | exact ⟨rfl, _, Eq.trans (World.drewN_drewN _ _ _) (congrArg (World.drewN _) (Nat.add_assoc _ _ _))⟩); have p175 : 0 ≤ (0 : Int) := (by omega); have q175 : 0 < (l1.length : Int) := of_decide_eq_true (by first | (with_reducible assumption) | assumption); obtain ⟨ad175, e175, hx175_0⟩ := Kd.at_int HR1.out 0 p175 q175; obtain rfl : ad173 = ad175 := (by injection e175); have qi175 : (0 < l1.length) = True := eq_true (by omega); (try rw [show ((0 : Int)).toNat = 0 from rfl] at hx175_0); (try rw [Addr.add_zero'] at hx175_0); replace p175 := eq_true p175; replace q175 := eq_true q175)))
                go_ret2
                exact ⟨by first | rfl | (simp; done) | (simp [*]; done), by repeat (first | exact Drawn0.refl _ | apply Drawn0.step)⟩
              · replace c12 := Bool.eq_false_iff.mpr c12
                subst c12
                have H1 : (some (0, 100)) = some (r1, r2) := by rw [if_neg (show ¬ (false = true) by decide)] at H; exact H
                clear H
                have H := H1
                clear H1
                simp only [Option.some.injEq, Prod.mk.injEq] at H
                obtain ⟨rfl, rfl⟩ := H
                have p173 : 0 ≤ (0 : Int) := (by omega)
                have q173 : 0 < (l1.length : Int) := of_decide_eq_true (by first | (with_reducible assumption) | assumption)
                obtain ⟨ad173, e173, hx173_0⟩ := Kd.at_int HR1.out 0 p173 q173
                cases e173
                have qi173 : (0 < l1.length) = True := eq_true (by omega)
                (try rw [show ((0 : Int)).toNat = 0 from rfl] at hx173_0)
                (try rw [Addr.add_zero'] at hx173_0)
                replace p173 := eq_true p173
                replace q173 := eq_true q173
                go_wp2_with (first | (go_at_call 24; (with_reducible refine (marqueeref10_num.calls (rd l1 0) false _ A11.out).mono ?_); rintro e w' ⟨rfl, ⟨nd, rfl⟩⟩; (try first | exact ⟨rfl, _, World.drewN_drewN _ _ _⟩ | exact ⟨rfl, _, Eq.trans (World.drewN_drewN _ _ _) (congrArg (World.drewN _) (Nat.add_assoc _ _ _))⟩); have p175 : 0 ≤ (0 : Int) := (by omega); have q175 : 0 < (l1.length : Int) := of_decide_eq_true (by first | (with_reducible assumption) | assumption); obtain ⟨ad175, e175, hx175_0⟩ := Kd.at_int HR1.out 0 p175 q175; obtain rfl : ad173 = ad175 := (by injection e175); have qi175 : (0 < l1.length) = True := eq_true (by omega); (try rw [show ((0 : Int)).toNat = 0 from rfl] at hx175_0); (try rw [Addr.add_zero'] at hx175_0); replace p175 := eq_true p175; replace q175 := eq_true q175))
                repeat (go_quiet (first | (go_at_call 24; (with_reducible refine (marqueeref10_num.calls (rd l1 0) false _ A11.out).mono ?_); rintro e w' ⟨rfl, ⟨nd, rfl⟩⟩; (try first | exact ⟨rfl, _, World.drewN_drewN _ _ _⟩ | exact ⟨rfl, _, Eq.trans (World.drewN_drewN _ _ _) (congrArg (World.drewN _) (Nat.add_assoc _ _ _))⟩); have p175 : 0 ≤ (0 : Int) := (by omega); have q175 : 0 < (l1.length : Int) := of_decide_eq_true (by first | (with_reducible assumption) | assumption); obtain ⟨ad175, e175, hx175_0⟩ := Kd.at_int HR1.out 0 p175 q175; obtain rfl : ad173 = ad175 := (by injection e175); have qi175 : (0 < l1.length) = True := eq_true (by omega); (try rw [show ((0 : Int)).toNat = 0 from rfl] at hx175_0); (try rw [Addr.add_zero'] at hx175_0); replace p175 := eq_true p175; replace q175 := eq_true q175)); try go_wp2_with (first | (go_at_call 24; (with_reducible refine (marqueeref10_num.calls (rd l1 0) false _ A11.out).mono ?_); rintro e w' ⟨rfl, ⟨nd, rfl⟩⟩; (try first | exact ⟨rfl, _, World.drewN_drewN _ _ _⟩ | exact ⟨rfl, _, Eq.trans (World.drewN_drewN _ _ _) (congrArg (World.drewN _) (Nat.add_assoc _ _ _))⟩); have p175 : 0 ≤ (0 : Int) := (by omega); have q175 : 0 < (l1.length : Int) := of_decide_eq_true (by first | (with_reducible assumption) | assumption); obtain ⟨ad175, e175, hx175_0⟩ := Kd.at_int HR1.out 0 p175 q175; obtain rfl : ad173 = ad175 := (by injection e175); have qi175 : (0 < l1.length) = True := eq_true (by omega); (try rw [show ((0 : Int)).toNat = 0 from rfl] at hx175_0); (try rw [Addr.add_zero'] at hx175_0); replace p175 := eq_true p175; replace q175 := eq_true q175)))
                go_ret2
                exact ⟨by first | rfl | (simp; done) | (simp [*]; done), by repeat (first | exact Drawn0.refl _ | apply Drawn0.step)⟩
            · rw [if_neg c10] at H
              exact absurd H (by simp)
          · rw [if_neg c9] at H
            have c9b0 : ((l1.length : Int) == 1) = false := beq_eq_false_iff_ne.mpr c9
            have c9b1 : ((l1.length : Int) != 1) = true := bne_iff_ne.mpr c9
            simp only [Option.some.injEq, Prod.mk.injEq] at H
            obtain ⟨rfl, rfl⟩ := H
            go_wp2
            repeat (go_quiet (fail); try go_wp2)
            go_ret2
            exact ⟨by first | rfl | (simp; done) | (simp [*]; done), by repeat (first | exact Drawn0.refl _ | apply Drawn0.step)⟩
        · rw [if_neg c8] at H
          have c8b0 : (a0.toList == ([97, 98, 115] : List UInt8)) = false := beq_eq_false_iff_ne.mpr c8
          have c8b1 : (a0.toList != ([97, 98, 115] : List UInt8)) = true := bne_iff_ne.mpr c8
          have HC13 := Aside0.mk H
          clear H
          go_upto_if 36 with (fail)
          repeat (go_quiet (fail); go_upto_if 36 with (fail))
          go_cut [36] (fun v36 wc => ∃ (kq : Nat) (x36_12 : Bool), v36 = .bool x36_12 ∧ Aside0 (marqueeref10_Kind.j1 kq l1 (l1.length : Int) false 0 a0 x36_12 = some (r1, r2)) ∧ Aside0 (kq ≤ k1) ∧ Drawn0 w wc)
          case first =>
            have H := HC13.out
            clear HC13
            by_cases c14 : a0.toList = ([99, 101, 105, 108] : List UInt8)
            · rw [if_pos c14] at H
              have c14b0 : (a0.toList == ([99, 101, 105, 108] : List UInt8)) = true := beq_iff_eq.mpr c14
              have c14b1 : (a0.toList != ([99, 101, 105, 108] : List UInt8)) = false := bne_eq_false_iff_eq.mpr c14
              clear c14
              (first | rw [c14b0] | (simp only [i64_w, i32_w]; rw [c14b0]) | skip)
              have H' := Aside0.mk H
              clear H
              go_wp2
              repeat (go_quiet (fail); try go_wp2)
              go_meet
              case rel => exact ⟨_, ((a0.toList == ([99, 101, 105, 108] : List UInt8))), (by first | rfl | (simp; done) | (simp [*]; done)), H', ⟨by have := HK1.out; first | omega | exact Nat.le_refl _⟩, by repeat (first | exact Drawn0.refl _ | apply Drawn0.step)⟩
            · rw [if_neg c14] at H
              have c14b0 : (a0.toList == ([99, 101, 105, 108] : List UInt8)) = false := beq_eq_false_iff_ne.mpr c14
              have c14b1 : (a0.toList != ([99, 101, 105, 108] : List UInt8)) = true := bne_iff_ne.mpr c14
              (first | rw [c14b0] | (simp only [i64_w, i32_w]; rw [c14b0]) | skip)
              by_cases c15 : a0.toList = ([102, 108, 111, 111, 114] : List UInt8)
              · rw [if_pos c15] at H
                have c15b0 : (a0.toList == ([102, 108, 111, 111, 114] : List UInt8)) = true := beq_iff_eq.mpr c15
                have c15b1 : (a0.toList != ([102, 108, 111, 111, 114] : List UInt8)) = false := bne_eq_false_iff_eq.mpr c15
                clear c15
                have H' := Aside0.mk H
                clear H
                go_wp2
                repeat (go_quiet (fail); try go_wp2)
                go_meet
                case rel => exact ⟨_, ((a0.toList == ([102, 108, 111, 111, 114] : List UInt8))), (by first | rfl | (simp; done) | (simp [*]; done)), H', ⟨by have := HK1.out; first | omega | exact Nat.le_refl _⟩, by repeat (first | exact Drawn0.refl _ | apply Drawn0.step)⟩
              · rw [if_neg c15] at H
                have c15b0 : (a0.toList == ([102, 108, 111, 111, 114] : List UInt8)) = false := beq_eq_false_iff_ne.mpr c15
                have c15b1 : (a0.toList != ([102, 108, 111, 111, 114] : List UInt8)) = true := bne_iff_ne.mpr c15
                by_cases c16 : a0.toList = ([114, 111, 117, 110, 100] : List UInt8)
                · rw [if_pos c16] at H
                  have c16b0 : (a0.toList == ([114, 111, 117, 110, 100] : List UInt8)) = true := beq_iff_eq.mpr c16
                  have c16b1 : (a0.toList != ([114, 111, 117, 110, 100] : List UInt8)) = false := bne_eq_false_iff_eq.mpr c16
                  clear c16
                  have H' := Aside0.mk H
                  clear H
                  go_wp2
                  repeat (go_quiet (fail); try go_wp2)
                  go_meet
                  case rel => exact ⟨_, ((a0.toList == ([114, 111, 117, 110, 100] : List UInt8))), (by first | rfl | (simp; done) | (simp [*]; done)), H', ⟨by have := HK1.out; first | omega | exact Nat.le_refl _⟩, by repeat (first | exact Drawn0.refl _ | apply Drawn0.step)⟩
                · rw [if_neg c16] at H
                  have c16b0 : (a0.toList == ([114, 111, 117, 110, 100] : List UInt8)) = false := beq_eq_false_iff_ne.mpr c16
                  have c16b1 : (a0.toList != ([114, 111, 117, 110, 100] : List UInt8)) = true := bne_iff_ne.mpr c16
                  by_cases c17 : a0.toList = ([115, 105, 103, 110] : List UInt8)
                  · rw [if_pos c17] at H
                    have c17b0 : (a0.toList == ([115, 105, 103, 110] : List UInt8)) = true := beq_iff_eq.mpr c17
                    have c17b1 : (a0.toList != ([115, 105, 103, 110] : List UInt8)) = false := bne_eq_false_iff_eq.mpr c17
                    clear c17
                    have H' := Aside0.mk H
                    clear H
                    go_wp2
                    repeat (go_quiet (fail); try go_wp2)
                    go_meet
                    case rel => exact ⟨_, ((a0.toList == ([115, 105, 103, 110] : List UInt8))), (by first | rfl | (simp; done) | (simp [*]; done)), H', ⟨by have := HK1.out; first | omega | exact Nat.le_refl _⟩, by repeat (first | exact Drawn0.refl _ | apply Drawn0.step)⟩
                  · rw [if_neg c17] at H
                    have c17b0 : (a0.toList == ([115, 105, 103, 110] : List UInt8)) = false := beq_eq_false_iff_ne.mpr c17
                    have c17b1 : (a0.toList != ([115, 105, 103, 110] : List UInt8)) = true := bne_iff_ne.mpr c17
                    have H' := Aside0.mk H
                    clear H
                    go_wp2
                    repeat (go_quiet (fail); try go_wp2)
                    go_meet
                    case rel => exact ⟨_, ((a0.toList == ([116, 111, 105, 110, 116] : List UInt8))), (by first | rfl | (simp; done) | (simp [*]; done)), H', ⟨by have := HK1.out; first | omega | exact Nat.le_refl _⟩, by repeat (first | exact Drawn0.refl _ | apply Drawn0.step)⟩
          case rest =>
            clear HC13
            try clear c1
            try clear p1
            try clear q1
            try clear hx1
            try clear qi1
            try clear p2
            try clear c3
            try clear c3b0
            try clear c4
            try clear c4b0
            try clear c5
            try clear c5b0
            try clear p6
            try clear c7
            try clear c8
            try clear c8b0
            try clear c8b1
            try clear c9
            try clear c9b0
            try clear c9b1
            try clear c10
            try clear c10b0
            try clear c10b1
            try clear c11
            try clear c12
            try clear c14
            try clear c14b0
            try clear c14b1
            try clear c15
            try clear c15b0
            try clear c15b1
            try clear c16
            try clear c16b0
            try clear c16b1
            try clear c17
            try clear c17b0
            try clear c17b1
            try clear p17
            try clear q17
            try clear hx17
            try clear qi17
            try clear hx171_0
            try clear hx173_0
            try clear hx175_0
            try clear p171
            try clear p173
            try clear p175
            try clear p2
            try clear q171
            try clear q173
            try clear q175
            obtain ⟨kq, x36_12, rfl, HA, HJ12, ⟨mc12, rfl⟩⟩ := hcut
            cases kq with
            | zero => exact absurd HA.out (by simp [marqueeref10_Kind.j1])
            | succ kj12 =>
              have H := HA.out
              clear HA
              simp only [marqueeref10_Kind.j1] at H
              by_cases c18 : x36_12 = true
              · subst c18
                have H1 : (if (l1.length : Int) = 1 then (if 0 < (l1.length : Int) then ((marqueeref10_num.f (rd l1 0)).bind fun t177 => (if t177 = true then (some (2, 0)) else (some (0, 100)))) else (none)) else (some (0, 100))) = some (r1, r2) := by rw [if_pos rfl] at H; exact H
                clear H
                have H := H1
                clear H1
                by_cases c19 : (l1.length : Int) = 1
                · rw [if_pos c19] at H
                  have c19b0 : ((l1.length : Int) == 1) = true := beq_iff_eq.mpr c19
                  have c19b1 : ((l1.length : Int) != 1) = false := bne_eq_false_iff_eq.mpr c19
                  clear c19
                  by_cases c20 : 0 < (l1.length : Int)
                  · rw [if_pos c20] at H
                    have c20b0 : decide (0 < (l1.length : Int)) = true := decide_eq_true c20
                    have c20b1 : decide (0 < l1.length) = true := decide_eq_true (by omega)
                    clear c20
                    replace H := Option.bind_eq_some_iff.mp H
                    obtain ⟨t177, A210, H⟩ := H
                    replace H : (if t177 = true then (some (2, 0)) else (some (0, 100))) = some (r1, r2) := H
                    have A21 := Aside0.mk A210
                    clear A210
                    by_cases c22 : t177 = true
                    · subst c22
                      have H1 : (some (2, 0)) = some (r1, r2) := by rw [if_pos rfl] at H; exact H
                      clear H
                      have H := H1
                      clear H1
                      simp only [Option.some.injEq, Prod.mk.injEq] at H
                      obtain ⟨rfl, rfl⟩ := H
                      have p176 : 0 ≤ (0 : Int) := (by omega)
                      have q176 : 0 < (l1.length : Int) := of_decide_eq_true (by first | (with_reducible assumption) | assumption)
                      obtain ⟨ad176, e176, hx176_0⟩ := Kd.at_int HR1.out 0 p176 q176
                      cases e176
                      have qi176 : (0 < l1.length) = True := eq_true (by omega)
                      (try rw [show ((0 : Int)).toNat = 0 from rfl] at hx176_0)
                      (try rw [Addr.add_zero'] at hx176_0)
                      replace p176 := eq_true p176
                      replace q176 := eq_true q176
                      go_wp2_with (first | (go_at_call 24; (with_reducible refine (marqueeref10_num.calls (rd l1 0) true _ A21.out).mono ?_); rintro e w' ⟨rfl, ⟨nd, rfl⟩⟩; (try first | exact ⟨rfl, _, World.drewN_drewN _ _ _⟩ | exact ⟨rfl, _, Eq.trans (World.drewN_drewN _ _ _) (congrArg (World.drewN _) (Nat.add_assoc _ _ _))⟩)))
                      repeat (go_quiet (first | (go_at_call 24; (with_reducible refine (marqueeref10_num.calls (rd l1 0) true _ A21.out).mono ?_); rintro e w' ⟨rfl, ⟨nd, rfl⟩⟩; (try first | exact ⟨rfl, _, World.drewN_drewN _ _ _⟩ | exact ⟨rfl, _, Eq.trans (World.drewN_drewN _ _ _) (congrArg (World.drewN _) (Nat.add_assoc _ _ _))⟩))); try go_wp2_with (first | (go_at_call 24; (with_reducible refine (marqueeref10_num.calls (rd l1 0) true _ A21.out).mono ?_); rintro e w' ⟨rfl, ⟨nd, rfl⟩⟩; (try first | exact ⟨rfl, _, World.drewN_drewN _ _ _⟩ | exact ⟨rfl, _, Eq.trans (World.drewN_drewN _ _ _) (congrArg (World.drewN _) (Nat.add_assoc _ _ _))⟩))))
                      go_ret2
                      exact ⟨by first | rfl | (simp; done) | (simp [*]; done), by repeat (first | exact Drawn0.refl _ | apply Drawn0.step)⟩
                    · replace c22 := Bool.eq_false_iff.mpr c22
                      subst c22
                      have H1 : (some (0, 100)) = some (r1, r2) := by rw [if_neg (show ¬ (false = true) by decide)] at H; exact H
                      clear H
                      have H := H1
                      clear H1
                      simp only [Option.some.injEq, Prod.mk.injEq] at H
                      obtain ⟨rfl, rfl⟩ := H
                      have p176 : 0 ≤ (0 : Int) := (by omega)
                      have q176 : 0 < (l1.length : Int) := of_decide_eq_true (by first | (with_reducible assumption) | assumption)
                      obtain ⟨ad176, e176, hx176_0⟩ := Kd.at_int HR1.out 0 p176 q176
                      cases e176
                      have qi176 : (0 < l1.length) = True := eq_true (by omega)
                      (try rw [show ((0 : Int)).toNat = 0 from rfl] at hx176_0)
                      (try rw [Addr.add_zero'] at hx176_0)
                      replace p176 := eq_true p176
                      replace q176 := eq_true q176
                      go_wp2_with (first | (go_at_call 24; (with_reducible refine (marqueeref10_num.calls (rd l1 0) false _ A21.out).mono ?_); rintro e w' ⟨rfl, ⟨nd, rfl⟩⟩; (try first | exact ⟨rfl, _, World.drewN_drewN _ _ _⟩ | exact ⟨rfl, _, Eq.trans (World.drewN_drewN _ _ _) (congrArg (World.drewN _) (Nat.add_assoc _ _ _))⟩)))
                      repeat (go_quiet (first | (go_at_call 24; (with_reducible refine (marqueeref10_num.calls (rd l1 0) false _ A21.out).mono ?_); rintro e w' ⟨rfl, ⟨nd, rfl⟩⟩; (try first | exact ⟨rfl, _, World.drewN_drewN _ _ _⟩ | exact ⟨rfl, _, Eq.trans (World.drewN_drewN _ _ _) (congrArg (World.drewN _) (Nat.add_assoc _ _ _))⟩))); try go_wp2_with (first | (go_at_call 24; (with_reducible refine (marqueeref10_num.calls (rd l1 0) false _ A21.out).mono ?_); rintro e w' ⟨rfl, ⟨nd, rfl⟩⟩; (try first | exact ⟨rfl, _, World.drewN_drewN _ _ _⟩ | exact ⟨rfl, _, Eq.trans (World.drewN_drewN _ _ _) (congrArg (World.drewN _) (Nat.add_assoc _ _ _))⟩))))
                      go_ret2
                      exact ⟨by first | rfl | (simp; done) | (simp [*]; done), by repeat (first | exact Drawn0.refl _ | apply Drawn0.step)⟩
                  · rw [if_neg c20] at H
                    exact absurd H (by simp)
                · rw [if_neg c19] at H
                  have c19b0 : ((l1.length : Int) == 1) = false := beq_eq_false_iff_ne.mpr c19
                  have c19b1 : ((l1.length : Int) != 1) = true := bne_iff_ne.mpr c19
                  simp only [Option.some.injEq, Prod.mk.injEq] at H
                  obtain ⟨rfl, rfl⟩ := H
                  go_wp2
                  repeat (go_quiet (fail); try go_wp2)
                  go_ret2
                  exact ⟨by first | rfl | (simp; done) | (simp [*]; done), by repeat (first | exact Drawn0.refl _ | apply Drawn0.step)⟩
              · replace c18 := Bool.eq_false_iff.mpr c18
                subst c18
                have H1 : (if a0.toList = ([116, 111, 100, 101, 99] : List UInt8) then (if (l1.length : Int) = 1 then (if 0 < (l1.length : Int) then ((marqueeref10_num.f (rd l1 0)).bind fun t179 => (if t179 = true then (some (3, 0)) else (some (0, 100)))) else (none)) else (some (0, 100))) else (if a0.toList = ([99, 111, 97, 108, 101, 115, 99, 101] : List UInt8) then (marqueeref10_Kind.j2 kj12 l1 (l1.length : Int) false 0 a0 (a0.toList == ([99, 111, 97, 108, 101, 115, 99, 101] : List UInt8))) else (if a0.toList = ([103, 114, 101, 97, 116, 101, 115, 116] : List UInt8) then (marqueeref10_Kind.j2 kj12 l1 (l1.length : Int) false 0 a0 (a0.toList == ([103, 114, 101, 97, 116, 101, 115, 116] : List UInt8))) else (marqueeref10_Kind.j2 kj12 l1 (l1.length : Int) false 0 a0 (a0.toList == ([108, 101, 97, 115, 116] : List UInt8)))))) = some (r1, r2) := by rw [if_neg (show ¬ (false = true) by decide)] at H; exact H
                clear H
                have H := H1
                clear H1
                by_cases c23 : a0.toList = ([116, 111, 100, 101, 99] : List UInt8)
                · rw [if_pos c23] at H
                  have c23b0 : (a0.toList == ([116, 111, 100, 101, 99] : List UInt8)) = true := beq_iff_eq.mpr c23
                  have c23b1 : (a0.toList != ([116, 111, 100, 101, 99] : List UInt8)) = false := bne_eq_false_iff_eq.mpr c23
                  clear c23
                  by_cases c24 : (l1.length : Int) = 1
                  · rw [if_pos c24] at H
                    have c24b0 : ((l1.length : Int) == 1) = true := beq_iff_eq.mpr c24
                    have c24b1 : ((l1.length : Int) != 1) = false := bne_eq_false_iff_eq.mpr c24
                    clear c24
                    by_cases c25 : 0 < (l1.length : Int)
                    · rw [if_pos c25] at H
                      have c25b0 : decide (0 < (l1.length : Int)) = true := decide_eq_true c25
                      have c25b1 : decide (0 < l1.length) = true := decide_eq_true (by omega)
                      clear c25
                      replace H := Option.bind_eq_some_iff.mp H
                      obtain ⟨t179, A260, H⟩ := H
                      replace H : (if t179 = true then (some (3, 0)) else (some (0, 100))) = some (r1, r2) := H
                      have A26 := Aside0.mk A260
                      clear A260
                      by_cases c27 : t179 = true
                      · subst c27
                        have H1 : (some (3, 0)) = some (r1, r2) := by rw [if_pos rfl] at H; exact H
                        clear H
                        have H := H1
                        clear H1
                        simp only [Option.some.injEq, Prod.mk.injEq] at H
                        obtain ⟨rfl, rfl⟩ := H
                        have p178 : 0 ≤ (0 : Int) := (by omega)
                        have q178 : 0 < (l1.length : Int) := of_decide_eq_true (by first | (with_reducible assumption) | assumption)
                        obtain ⟨ad178, e178, hx178_0⟩ := Kd.at_int HR1.out 0 p178 q178
                        cases e178
                        have qi178 : (0 < l1.length) = True := eq_true (by omega)
                        (try rw [show ((0 : Int)).toNat = 0 from rfl] at hx178_0)
                        (try rw [Addr.add_zero'] at hx178_0)
                        replace p178 := eq_true p178
                        replace q178 := eq_true q178
                        go_wp2_with (first | (go_at_call 24; (with_reducible refine (marqueeref10_num.calls (rd l1 0) true _ A26.out).mono ?_); rintro e w' ⟨rfl, ⟨nd, rfl⟩⟩; (try first | exact ⟨rfl, _, World.drewN_drewN _ _ _⟩ | exact ⟨rfl, _, Eq.trans (World.drewN_drewN _ _ _) (congrArg (World.drewN _) (Nat.add_assoc _ _ _))⟩)))
                        repeat (go_quiet (first | (go_at_call 24; (with_reducible refine (marqueeref10_num.calls (rd l1 0) true _ A26.out).mono ?_); rintro e w' ⟨rfl, ⟨nd, rfl⟩⟩; (try first | exact ⟨rfl, _, World.drewN_drewN _ _ _⟩ | exact ⟨rfl, _, Eq.trans (World.drewN_drewN _ _ _) (congrArg (World.drewN _) (Nat.add_assoc _ _ _))⟩))); try go_wp2_with (first | (go_at_call 24; (with_reducible refine (marqueeref10_num.calls (rd l1 0) true _ A26.out).mono ?_); rintro e w' ⟨rfl, ⟨nd, rfl⟩⟩; (try first | exact ⟨rfl, _, World.drewN_drewN _ _ _⟩ | exact ⟨rfl, _, Eq.trans (World.drewN_drewN _ _ _) (congrArg (World.drewN _) (Nat.add_assoc _ _ _))⟩))))
                        go_ret2
                        exact ⟨by first | rfl | (simp; done) | (simp [*]; done), by repeat (first | exact Drawn0.refl _ | apply Drawn0.step)⟩
                      · replace c27 := Bool.eq_false_iff.mpr c27
                        subst c27
                        have H1 : (some (0, 100)) = some (r1, r2) := by rw [if_neg (show ¬ (false = true) by decide)] at H; exact H
                        clear H
                        have H := H1
                        clear H1
                        simp only [Option.some.injEq, Prod.mk.injEq] at H
                        obtain ⟨rfl, rfl⟩ := H
                        have p178 : 0 ≤ (0 : Int) := (by omega)
                        have q178 : 0 < (l1.length : Int) := of_decide_eq_true (by first | (with_reducible assumption) | assumption)
                        obtain ⟨ad178, e178, hx178_0⟩ := Kd.at_int HR1.out 0 p178 q178
                        cases e178
                        have qi178 : (0 < l1.length) = True := eq_true (by omega)
                        (try rw [show ((0 : Int)).toNat = 0 from rfl] at hx178_0)
                        (try rw [Addr.add_zero'] at hx178_0)
                        replace p178 := eq_true p178
                        replace q178 := eq_true q178
                        go_wp2_with (first | (go_at_call 24; (with_reducible refine (marqueeref10_num.calls (rd l1 0) false _ A26.out).mono ?_); rintro e w' ⟨rfl, ⟨nd, rfl⟩⟩; (try first | exact ⟨rfl, _, World.drewN_drewN _ _ _⟩ | exact ⟨rfl, _, Eq.trans (World.drewN_drewN _ _ _) (congrArg (World.drewN _) (Nat.add_assoc _ _ _))⟩)))
                        repeat (go_quiet (first | (go_at_call 24; (with_reducible refine (marqueeref10_num.calls (rd l1 0) false _ A26.out).mono ?_); rintro e w' ⟨rfl, ⟨nd, rfl⟩⟩; (try first | exact ⟨rfl, _, World.drewN_drewN _ _ _⟩ | exact ⟨rfl, _, Eq.trans (World.drewN_drewN _ _ _) (congrArg (World.drewN _) (Nat.add_assoc _ _ _))⟩))); try go_wp2_with (first | (go_at_call 24; (with_reducible refine (marqueeref10_num.calls (rd l1 0) false _ A26.out).mono ?_); rintro e w' ⟨rfl, ⟨nd, rfl⟩⟩; (try first | exact ⟨rfl, _, World.drewN_drewN _ _ _⟩ | exact ⟨rfl, _, Eq.trans (World.drewN_drewN _ _ _) (congrArg (World.drewN _) (Nat.add_assoc _ _ _))⟩))))
                        go_ret2
                        exact ⟨by first | rfl | (simp; done) | (simp [*]; done), by repeat (first | exact Drawn0.refl _ | apply Drawn0.step)⟩
                    · rw [if_neg c25] at H
                      exact absurd H (by simp)
                  · rw [if_neg c24] at H
                    have c24b0 : ((l1.length : Int) == 1) = false := beq_eq_false_iff_ne.mpr c24
                    have c24b1 : ((l1.length : Int) != 1) = true := bne_iff_ne.mpr c24
                    simp only [Option.some.injEq, Prod.mk.injEq] at H
                    obtain ⟨rfl, rfl⟩ := H
                    go_wp2
                    repeat (go_quiet (fail); try go_wp2)
                    go_ret2
                    exact ⟨by first | rfl | (simp; done) | (simp [*]; done), by repeat (first | exact Drawn0.refl _ | apply Drawn0.step)⟩
                · rw [if_neg c23] at H
                  have c23b0 : (a0.toList == ([116, 111, 100, 101, 99] : List UInt8)) = false := beq_eq_false_iff_ne.mpr c23
                  have c23b1 : (a0.toList != ([116, 111, 100, 101, 99] : List UInt8)) = true := bne_iff_ne.mpr c23
                  have HC28 := Aside0.mk H
                  clear H
                  go_upto_if 60 with (fail)
                  repeat (go_quiet (fail); go_upto_if 60 with (fail))
                  go_cut [60] (fun v60 wc => ∃ (kq : Nat) (x60_27 : Bool), v60 = .bool x60_27 ∧ Aside0 (marqueeref10_Kind.j2 kq l1 (l1.length : Int) false 0 a0 x60_27 = some (r1, r2)) ∧ Aside0 (kq ≤ kj12) ∧ Drawn0 w wc)
                  case first =>
                    have H := HC28.out
                    clear HC28
                    by_cases c29 : a0.toList = ([99, 111, 97, 108, 101, 115, 99, 101] : List UInt8)
                    · rw [if_pos c29] at H
                      have c29b0 : (a0.toList == ([99, 111, 97, 108, 101, 115, 99, 101] : List UInt8)) = true := beq_iff_eq.mpr c29
                      have c29b1 : (a0.toList != ([99, 111, 97, 108, 101, 115, 99, 101] : List UInt8)) = false := bne_eq_false_iff_eq.mpr c29
                      clear c29
                      (first | rw [c29b0] | (simp only [i64_w, i32_w]; rw [c29b0]) | skip)
                      have H' := Aside0.mk H
                      clear H
                      go_wp2
                      repeat (go_quiet (fail); try go_wp2)
                      go_meet
                      case rel => exact ⟨_, ((a0.toList == ([99, 111, 97, 108, 101, 115, 99, 101] : List UInt8))), (by first | rfl | (simp; done) | (simp [*]; done)), H', ⟨by have := HK1.out; have := HJ12.out; first | omega | exact Nat.le_refl _⟩, by repeat (first | exact Drawn0.refl _ | apply Drawn0.step)⟩
                    · rw [if_neg c29] at H
                      have c29b0 : (a0.toList == ([99, 111, 97, 108, 101, 115, 99, 101] : List UInt8)) = false := beq_eq_false_iff_ne.mpr c29
                      have c29b1 : (a0.toList != ([99, 111, 97, 108, 101, 115, 99, 101] : List UInt8)) = true := bne_iff_ne.mpr c29
                      (first | rw [c29b0] | (simp only [i64_w, i32_w]; rw [c29b0]) | skip)
                      by_cases c30 : a0.toList = ([103, 114, 101, 97, 116, 101, 115, 116] : List UInt8)
                      · rw [if_pos c30] at H
                        have c30b0 : (a0.toList == ([103, 114, 101, 97, 116, 101, 115, 116] : List UInt8)) = true := beq_iff_eq.mpr c30
                        have c30b1 : (a0.toList != ([103, 114, 101, 97, 116, 101, 115, 116] : List UInt8)) = false := bne_eq_false_iff_eq.mpr c30
                        clear c30
                        have H' := Aside0.mk H
                        clear H
                        go_wp2
                        repeat (go_quiet (fail); try go_wp2)
                        go_meet
                        case rel => exact ⟨_, ((a0.toList == ([103, 114, 101, 97, 116, 101, 115, 116] : List UInt8))), (by first | rfl | (simp; done) | (simp [*]; done)), H', ⟨by have := HK1.out; have := HJ12.out; first | omega | exact Nat.le_refl _⟩, by repeat (first | exact Drawn0.refl _ | apply Drawn0.step)⟩
                      · rw [if_neg c30] at H
                        have c30b0 : (a0.toList == ([103, 114, 101, 97, 116, 101, 115, 116] : List UInt8)) = false := beq_eq_false_iff_ne.mpr c30
                        have c30b1 : (a0.toList != ([103, 114, 101, 97, 116, 101, 115, 116] : List UInt8)) = true := bne_iff_ne.mpr c30
                        have H' := Aside0.mk H
                        clear H
                        go_wp2
                        repeat (go_quiet (fail); try go_wp2)
                        go_meet
                        case rel => exact ⟨_, ((a0.toList == ([108, 101, 97, 115, 116] : List UInt8))), (by first | rfl | (simp; done) | (simp [*]; done)), H', ⟨by have := HK1.out; have := HJ12.out; first | omega | exact Nat.le_refl _⟩, by repeat (first | exact Drawn0.refl _ | apply Drawn0.step)⟩
                  case rest =>
                    clear HC28
                    try clear c1
                    try clear p1
                    try clear q1
                    try clear hx1
                    try clear qi1
                    try clear c2
                    try clear p2
                    try clear c3
                    try clear c3b0
                    try clear c4
                    try clear c4b0
                    try clear c5
                    try clear c5b0
                    try clear p6
                    try clear c7
                    try clear c8
                    try clear c8b0
                    try clear c8b1
                    try clear c9
                    try clear c9b0
                    try clear c9b1
                    try clear c10
                    try clear c10b0
                    try clear c10b1
                    try clear c11
                    try clear c12
                    try clear c14
                    try clear c14b0
                    try clear c14b1
                    try clear c15
                    try clear c15b0
                    try clear c15b1
                    try clear c16
                    try clear c16b0
                    try clear c16b1
                    try clear c17
                    try clear c17b0
                    try clear c17b1
                    try clear p17
                    try clear q17
                    try clear hx17
                    try clear qi17
                    try clear c18
                    try clear c19
                    try clear c19b0
                    try clear c19b1
                    try clear c20
                    try clear c20b0
                    try clear c20b1
                    try clear c22
                    try clear c23
                    try clear c23b0
                    try clear c23b1
                    try clear c24
                    try clear c24b0
                    try clear c24b1
                    try clear c25
                    try clear c25b0
                    try clear c25b1
                    try clear c27
                    try clear c29
                    try clear c29b0
                    try clear c29b1
                    try clear c30
                    try clear c30b0
                    try clear c30b1
                    try clear hx171_0
                    try clear hx173_0
                    try clear hx175_0
                    try clear hx176_0
                    try clear hx178_0
                    try clear p1
                    try clear p17
                    try clear p171
                    try clear p173
                    try clear p175
                    try clear p176
                    try clear p178
                    try clear p2
                    try clear p6
                    try clear q1
                    try clear q17
                    try clear q171
                    try clear q173
                    try clear q175
                    try clear q176
                    try clear q178
                    obtain ⟨kq, x60_27, rfl, HA, HJ27, ⟨mc27, rfl⟩⟩ := hcut
                    cases kq with
                    | zero => exact absurd HA.out (by simp [marqueeref10_Kind.j2])
                    | succ kj27 =>
                      have H := HA.out
                      clear HA
                      simp only [marqueeref10_Kind.j2] at H
                      by_cases c31 : x60_27 = true
                      · subst c31
                        have H1 : ((marqueeref10_alike.f kj27 l1).bind fun bt180 => (if bt180.2 = true then (if (l1.length : Int) ≥ 1 then (some (bt180.1, 0)) else (some (0, 100))) else (some (0, 100)))) = some (r1, r2) := by rw [if_pos rfl] at H; exact H
                        clear H
                        have H := H1
                        clear H1
                        replace H := Option.bind_eq_some_iff.mp H
                        obtain ⟨⟨t180, t181⟩, A320, H⟩ := H
                        replace H : (if t181 = true then (if (l1.length : Int) ≥ 1 then (some (t180, 0)) else (some (0, 100))) else (some (0, 100))) = some (r1, r2) := H
                        have A32 := Aside0.mk A320
                        clear A320
                        by_cases c33 : t181 = true
                        · subst c33
                          have H1 : (if (l1.length : Int) ≥ 1 then (some (t180, 0)) else (some (0, 100))) = some (r1, r2) := by rw [if_pos rfl] at H; exact H
                          clear H
                          have H := H1
                          clear H1
                          by_cases c34 : (l1.length : Int) ≥ 1
                          · rw [if_pos c34] at H
                            have c34b0 : decide (1 ≤ (l1.length : Int)) = true := decide_eq_true c34
                            have c34b1 : decide (1 ≤ l1.length) = true := decide_eq_true (by omega)
                            clear c34
                            simp only [Option.some.injEq, Prod.mk.injEq] at H
                            obtain ⟨rfl, rfl⟩ := H
                            go_wp2_with (first | (go_at_call 25; (with_reducible refine (marqueeref10_alike.calls kj27 _ _ l1 t180 true _ ?side1 ?side2 A32.out).mono ?_); (case side1 => repeat (first | exact HR1.out | (with_reducible refine Kd.C_alloc ?_ _) | (with_reducible refine Kd.C_drewN ?_ _) | (with_reducible refine Kd.C_drew ?_))); (case side2 => exact HC1.out); rintro e w' ⟨rfl, ⟨nd, rfl⟩⟩; (try first | exact ⟨rfl, _, World.drewN_drewN _ _ _⟩ | exact ⟨rfl, _, Eq.trans (World.drewN_drewN _ _ _) (congrArg (World.drewN _) (Nat.add_assoc _ _ _))⟩)))
                            repeat (go_quiet (first | (go_at_call 25; (with_reducible refine (marqueeref10_alike.calls kj27 _ _ l1 t180 true _ ?side1 ?side2 A32.out).mono ?_); (case side1 => repeat (first | exact HR1.out | (with_reducible refine Kd.C_alloc ?_ _) | (with_reducible refine Kd.C_drewN ?_ _) | (with_reducible refine Kd.C_drew ?_))); (case side2 => exact HC1.out); rintro e w' ⟨rfl, ⟨nd, rfl⟩⟩; (try first | exact ⟨rfl, _, World.drewN_drewN _ _ _⟩ | exact ⟨rfl, _, Eq.trans (World.drewN_drewN _ _ _) (congrArg (World.drewN _) (Nat.add_assoc _ _ _))⟩))); try go_wp2_with (first | (go_at_call 25; (with_reducible refine (marqueeref10_alike.calls kj27 _ _ l1 t180 true _ ?side1 ?side2 A32.out).mono ?_); (case side1 => repeat (first | exact HR1.out | (with_reducible refine Kd.C_alloc ?_ _) | (with_reducible refine Kd.C_drewN ?_ _) | (with_reducible refine Kd.C_drew ?_))); (case side2 => exact HC1.out); rintro e w' ⟨rfl, ⟨nd, rfl⟩⟩; (try first | exact ⟨rfl, _, World.drewN_drewN _ _ _⟩ | exact ⟨rfl, _, Eq.trans (World.drewN_drewN _ _ _) (congrArg (World.drewN _) (Nat.add_assoc _ _ _))⟩))))
                            go_ret2
                            exact ⟨by first | rfl | (simp; done) | (simp [*]; done), by repeat (first | exact Drawn0.refl _ | apply Drawn0.step)⟩
                          · rw [if_neg c34] at H
                            have c34b0 : decide (1 ≤ (l1.length : Int)) = false := decide_eq_false c34
                            have c34b1 : decide (1 ≤ l1.length) = false := decide_eq_false (by omega)
                            clear c34
                            simp only [Option.some.injEq, Prod.mk.injEq] at H
                            obtain ⟨rfl, rfl⟩ := H
                            go_wp2_with (first | (go_at_call 25; (with_reducible refine (marqueeref10_alike.calls kj27 _ _ l1 t180 true _ ?side1 ?side2 A32.out).mono ?_); (case side1 => repeat (first | exact HR1.out | (with_reducible refine Kd.C_alloc ?_ _) | (with_reducible refine Kd.C_drewN ?_ _) | (with_reducible refine Kd.C_drew ?_))); (case side2 => exact HC1.out); rintro e w' ⟨rfl, ⟨nd, rfl⟩⟩; (try first | exact ⟨rfl, _, World.drewN_drewN _ _ _⟩ | exact ⟨rfl, _, Eq.trans (World.drewN_drewN _ _ _) (congrArg (World.drewN _) (Nat.add_assoc _ _ _))⟩)))
                            repeat (go_quiet (first | (go_at_call 25; (with_reducible refine (marqueeref10_alike.calls kj27 _ _ l1 t180 true _ ?side1 ?side2 A32.out).mono ?_); (case side1 => repeat (first | exact HR1.out | (with_reducible refine Kd.C_alloc ?_ _) | (with_reducible refine Kd.C_drewN ?_ _) | (with_reducible refine Kd.C_drew ?_))); (case side2 => exact HC1.out); rintro e w' ⟨rfl, ⟨nd, rfl⟩⟩; (try first | exact ⟨rfl, _, World.drewN_drewN _ _ _⟩ | exact ⟨rfl, _, Eq.trans (World.drewN_drewN _ _ _) (congrArg (World.drewN _) (Nat.add_assoc _ _ _))⟩))); try go_wp2_with (first | (go_at_call 25; (with_reducible refine (marqueeref10_alike.calls kj27 _ _ l1 t180 true _ ?side1 ?side2 A32.out).mono ?_); (case side1 => repeat (first | exact HR1.out | (with_reducible refine Kd.C_alloc ?_ _) | (with_reducible refine Kd.C_drewN ?_ _) | (with_reducible refine Kd.C_drew ?_))); (case side2 => exact HC1.out); rintro e w' ⟨rfl, ⟨nd, rfl⟩⟩; (try first | exact ⟨rfl, _, World.drewN_drewN _ _ _⟩ | exact ⟨rfl, _, Eq.trans (World.drewN_drewN _ _ _) (congrArg (World.drewN _) (Nat.add_assoc _ _ _))⟩))))
                            go_ret2
                            exact ⟨by first | rfl | (simp; done) | (simp [*]; done), by repeat (first | exact Drawn0.refl _ | apply Drawn0.step)⟩
                        · replace c33 := Bool.eq_false_iff.mpr c33
                          subst c33
                          have H1 : (some (0, 100)) = some (r1, r2) := by rw [if_neg (show ¬ (false = true) by decide)] at H; exact H
                          clear H
                          have H := H1
                          clear H1
                          simp only [Option.some.injEq, Prod.mk.injEq] at H
                          obtain ⟨rfl, rfl⟩ := H
                          go_wp2_with (first | (go_at_call 25; (with_reducible refine (marqueeref10_alike.calls kj27 _ _ l1 t180 false _ ?side1 ?side2 A32.out).mono ?_); (case side1 => repeat (first | exact HR1.out | (with_reducible refine Kd.C_alloc ?_ _) | (with_reducible refine Kd.C_drewN ?_ _) | (with_reducible refine Kd.C_drew ?_))); (case side2 => exact HC1.out); rintro e w' ⟨rfl, ⟨nd, rfl⟩⟩; (try first | exact ⟨rfl, _, World.drewN_drewN _ _ _⟩ | exact ⟨rfl, _, Eq.trans (World.drewN_drewN _ _ _) (congrArg (World.drewN _) (Nat.add_assoc _ _ _))⟩)))
                          repeat (go_quiet (first | (go_at_call 25; (with_reducible refine (marqueeref10_alike.calls kj27 _ _ l1 t180 false _ ?side1 ?side2 A32.out).mono ?_); (case side1 => repeat (first | exact HR1.out | (with_reducible refine Kd.C_alloc ?_ _) | (with_reducible refine Kd.C_drewN ?_ _) | (with_reducible refine Kd.C_drew ?_))); (case side2 => exact HC1.out); rintro e w' ⟨rfl, ⟨nd, rfl⟩⟩; (try first | exact ⟨rfl, _, World.drewN_drewN _ _ _⟩ | exact ⟨rfl, _, Eq.trans (World.drewN_drewN _ _ _) (congrArg (World.drewN _) (Nat.add_assoc _ _ _))⟩))); try go_wp2_with (first | (go_at_call 25; (with_reducible refine (marqueeref10_alike.calls kj27 _ _ l1 t180 false _ ?side1 ?side2 A32.out).mono ?_); (case side1 => repeat (first | exact HR1.out | (with_reducible refine Kd.C_alloc ?_ _) | (with_reducible refine Kd.C_drewN ?_ _) | (with_reducible refine Kd.C_drew ?_))); (case side2 => exact HC1.out); rintro e w' ⟨rfl, ⟨nd, rfl⟩⟩; (try first | exact ⟨rfl, _, World.drewN_drewN _ _ _⟩ | exact ⟨rfl, _, Eq.trans (World.drewN_drewN _ _ _) (congrArg (World.drewN _) (Nat.add_assoc _ _ _))⟩))))
                          go_ret2
                          exact ⟨by first | rfl | (simp; done) | (simp [*]; done), by repeat (first | exact Drawn0.refl _ | apply Drawn0.step)⟩
                      · replace c31 := Bool.eq_false_iff.mpr c31
                        subst c31
                        have H1 : (if a0.toList = ([99, 111, 110, 99, 97, 116] : List UInt8) then (marqueeref10_Kind.l1 kj27 l1 (l1.length : Int) (decide ((l1.length : Int) ≥ 1)) 4 0) else (if a0.toList = ([108, 101, 110, 103, 116, 104] : List UInt8) then (if (l1.length : Int) = 1 then (if 0 < (l1.length : Int) then ((marqueeref10_text.f (rd l1 0)).bind fun t185 => (if t185 = true then (some (2, 0)) else (some (0, 100)))) else (none)) else (some (0, 100))) else (if a0.toList = ([108, 111, 119, 101, 114] : List UInt8) then (marqueeref10_Kind.j4 kj27 l1 (l1.length : Int) false 0 a0 (a0.toList == ([108, 111, 119, 101, 114] : List UInt8))) else (if a0.toList = ([116, 114, 105, 109] : List UInt8) then (marqueeref10_Kind.j4 kj27 l1 (l1.length : Int) false 0 a0 (a0.toList == ([116, 114, 105, 109] : List UInt8))) else (marqueeref10_Kind.j4 kj27 l1 (l1.length : Int) false 0 a0 (a0.toList == ([117, 112, 112, 101, 114] : List UInt8))))))) = some (r1, r2) := by rw [if_neg (show ¬ (false = true) by decide)] at H; exact H
                        clear H
                        have H := H1
                        clear H1
                        by_cases c35 : a0.toList = ([99, 111, 110, 99, 97, 116] : List UInt8)
                        · rw [if_pos c35] at H
                          have c35b0 : (a0.toList == ([99, 111, 110, 99, 97, 116] : List UInt8)) = true := beq_iff_eq.mpr c35
                          have c35b1 : (a0.toList != ([99, 111, 110, 99, 97, 116] : List UInt8)) = false := bne_eq_false_iff_eq.mpr c35
                          clear c35
                          have H' := Aside0.mk H
                          clear H
                          go_wp2
                          repeat (go_quiet (fail); try go_wp2)
                          go_loopg [8, 10] kj27 (fun kq v8 v10 w' => ∃ (x8_4 : Bool) (x10_4 : Int), v8 = .bool x8_4 ∧ v10 = .int .i64 x10_4 ∧ Aside0 (marqueeref10_Kind.l1 kq l1 (l1.length : Int) x8_4 4 x10_4 = some (r1, r2)) ∧ Aside0 (kq ≤ kj27) ∧ Drawn0 w w')
                          case atStart => exact ⟨(decide ((l1.length : Int) ≥ 1)), (0), (by first | rfl | (simp; done) | (simp [*]; done)), (by first | rfl | (simp; done) | (simp [*]; done)), H', ⟨Nat.le_refl _⟩, by repeat (first | exact Drawn0.refl _ | apply Drawn0.step)⟩
                          case round =>
                            clear H'
                            try clear c1
                            try clear p1
                            try clear q1
                            try clear hx1
                            try clear qi1
                            try clear c2
                            try clear p2
                            try clear c3
                            try clear c3b0
                            try clear c4
                            try clear c4b0
                            try clear c5
                            try clear c5b0
                            try clear p6
                            try clear c7
                            try clear c8
                            try clear c8b0
                            try clear c8b1
                            try clear c9
                            try clear c9b0
                            try clear c9b1
                            try clear c10
                            try clear c10b0
                            try clear c10b1
                            try clear c11
                            try clear c12
                            try clear c14
                            try clear c14b0
                            try clear c14b1
                            try clear c15
                            try clear c15b0
                            try clear c15b1
                            try clear c16
                            try clear c16b0
                            try clear c16b1
                            try clear c17
                            try clear c17b0
                            try clear c17b1
                            try clear p17
                            try clear q17
                            try clear hx17
                            try clear qi17
                            try clear c18
                            try clear c19
                            try clear c19b0
                            try clear c19b1
                            try clear c20
                            try clear c20b0
                            try clear c20b1
                            try clear c22
                            try clear c23
                            try clear c23b0
                            try clear c23b1
                            try clear c24
                            try clear c24b0
                            try clear c24b1
                            try clear c25
                            try clear c25b0
                            try clear c25b1
                            try clear c27
                            try clear c29
                            try clear c29b0
                            try clear c29b1
                            try clear c30
                            try clear c30b0
                            try clear c30b1
                            try clear c31
                            try clear c33
                            try clear c34
                            try clear c34b0
                            try clear c34b1
                            try clear c35
                            try clear c35b0
                            try clear c35b1
                            try clear hx171_0
                            try clear hx173_0
                            try clear hx175_0
                            try clear hx176_0
                            try clear hx178_0
                            try clear p1
                            try clear p17
                            try clear p171
                            try clear p173
                            try clear p175
                            try clear p176
                            try clear p178
                            try clear p2
                            try clear p6
                            try clear q1
                            try clear q17
                            try clear q171
                            try clear q173
                            try clear q175
                            try clear q176
                            try clear q178
                            obtain ⟨x8_4, x10_4, rfl, rfl, HA, HK4, ⟨m4, rfl⟩⟩ := hrel
                            cases gk with
                            | zero => exact absurd HA.out (by simp [marqueeref10_Kind.l1])
                            | succ k4 =>
                              have H := HA.out
                              clear HA
                              simp only [marqueeref10_Kind.l1] at H
                              by_cases c36 : x10_4 < (l1.length : Int)
                              · rw [if_pos c36] at H
                                have c36b0 : decide (x10_4 < (l1.length : Int)) = true := decide_eq_true c36
                                clear c36
                                by_cases c37 : x8_4 = true
                                · subst c37
                                  have H1 : (if 0 ≤ x10_4 then (if x10_4 < (l1.length : Int) then ((marqueeref10_text.f (rd l1 x10_4)).bind fun t183 => (marqueeref10_Kind.l1 k4 l1 (l1.length : Int) t183 4 (wrap64 (x10_4 + 1)))) else (none)) else (none)) = some (r1, r2) := by rw [if_pos rfl] at H; exact H
                                  clear H
                                  have H := H1
                                  clear H1
                                  by_cases c38 : 0 ≤ x10_4
                                  · rw [if_pos c38] at H
                                    have c38b0 : decide (0 ≤ x10_4) = true := decide_eq_true c38
                                    clear c38
                                    by_cases c39 : x10_4 < (l1.length : Int)
                                    · rw [if_pos c39] at H
                                      have c39b0 : decide (x10_4 < (l1.length : Int)) = true := decide_eq_true c39
                                      clear c39
                                      replace H := Option.bind_eq_some_iff.mp H
                                      obtain ⟨t183, A400, H⟩ := H
                                      replace H : (marqueeref10_Kind.l1 k4 l1 (l1.length : Int) t183 4 (wrap64 (x10_4 + 1))) = some (r1, r2) := H
                                      have A40 := Aside0.mk A400
                                      clear A400
                                      have H' := Aside0.mk H
                                      clear H
                                      have p182 : 0 ≤ (x10_4 : Int) := of_decide_eq_true (by first | (with_reducible assumption) | assumption)
                                      have q182 : x10_4 < (l1.length : Int) := of_decide_eq_true (by first | (with_reducible assumption) | assumption)
                                      obtain ⟨ad182, e182, hx182_0⟩ := Kd.at_int HR1.out x10_4 p182 q182
                                      cases e182
                                      replace p182 := eq_true p182
                                      replace q182 := eq_true q182
                                      go_wp2_with (first | (go_at_call 26; (with_reducible refine (marqueeref10_text.calls (rd l1 x10_4) t183 _ A40.out).mono ?_); rintro e w' ⟨rfl, ⟨nd, rfl⟩⟩; (try first | exact ⟨rfl, _, World.drewN_drewN _ _ _⟩ | exact ⟨rfl, _, Eq.trans (World.drewN_drewN _ _ _) (congrArg (World.drewN _) (Nat.add_assoc _ _ _))⟩)))
                                      repeat (go_quiet (first | (go_at_call 26; (with_reducible refine (marqueeref10_text.calls (rd l1 x10_4) t183 _ A40.out).mono ?_); rintro e w' ⟨rfl, ⟨nd, rfl⟩⟩; (try first | exact ⟨rfl, _, World.drewN_drewN _ _ _⟩ | exact ⟨rfl, _, Eq.trans (World.drewN_drewN _ _ _) (congrArg (World.drewN _) (Nat.add_assoc _ _ _))⟩))); try go_wp2_with (first | (go_at_call 26; (with_reducible refine (marqueeref10_text.calls (rd l1 x10_4) t183 _ A40.out).mono ?_); rintro e w' ⟨rfl, ⟨nd, rfl⟩⟩; (try first | exact ⟨rfl, _, World.drewN_drewN _ _ _⟩ | exact ⟨rfl, _, Eq.trans (World.drewN_drewN _ _ _) (congrArg (World.drewN _) (Nat.add_assoc _ _ _))⟩))))
                                      go_roundg k4
                                      case measure => have := HK1.out; have := HJ12.out; have := HJ27.out; have := HK4.out; omega
                                      case rel => exact ⟨(t183), (wrap64 (x10_4 + 1)), (by first | rfl | (simp; done) | (simp [*]; done)), (by first | rfl | (simp; done) | (simp [*]; done)), H', ⟨by have := HK1.out; have := HJ12.out; have := HJ27.out; have := HK4.out; omega⟩, by repeat (first | exact Drawn0.refl _ | apply Drawn0.step)⟩
                                    · rw [if_neg c39] at H
                                      exact absurd H (by simp)
                                  · rw [if_neg c38] at H
                                    exact absurd H (by simp)
                                · replace c37 := Bool.eq_false_iff.mpr c37
                                  subst c37
                                  have H1 : (marqueeref10_Kind.l1 k4 l1 (l1.length : Int) false 4 (wrap64 (x10_4 + 1))) = some (r1, r2) := by rw [if_neg (show ¬ (false = true) by decide)] at H; exact H
                                  clear H
                                  have H := H1
                                  clear H1
                                  have H' := Aside0.mk H
                                  clear H
                                  go_wp2
                                  repeat (go_quiet (fail); try go_wp2)
                                  go_roundg k4
                                  case measure => have := HK1.out; have := HJ12.out; have := HJ27.out; have := HK4.out; omega
                                  case rel => exact ⟨(false), (wrap64 (x10_4 + 1)), (by first | rfl | (simp; done) | (simp [*]; done)), (by first | rfl | (simp; done) | (simp [*]; done)), H', ⟨by have := HK1.out; have := HJ12.out; have := HJ27.out; have := HK4.out; omega⟩, by repeat (first | exact Drawn0.refl _ | apply Drawn0.step)⟩
                              · rw [if_neg c36] at H
                                have c36b0 : decide (x10_4 < (l1.length : Int)) = false := decide_eq_false c36
                                clear c36
                                by_cases c41 : x8_4 = true
                                · subst c41
                                  have H1 : (some (4, 0)) = some (r1, r2) := by rw [if_pos rfl] at H; exact H
                                  clear H
                                  have H := H1
                                  clear H1
                                  simp only [Option.some.injEq, Prod.mk.injEq] at H
                                  obtain ⟨rfl, rfl⟩ := H
                                  go_wp2
                                  repeat (go_quiet (fail); try go_wp2)
                                  go_ret2
                                  exact ⟨by first | rfl | (simp; done) | (simp [*]; done), by repeat (first | exact Drawn0.refl _ | apply Drawn0.step)⟩
                                · replace c41 := Bool.eq_false_iff.mpr c41
                                  subst c41
                                  have H1 : (some (0, 100)) = some (r1, r2) := by rw [if_neg (show ¬ (false = true) by decide)] at H; exact H
                                  clear H
                                  have H := H1
                                  clear H1
                                  simp only [Option.some.injEq, Prod.mk.injEq] at H
                                  obtain ⟨rfl, rfl⟩ := H
                                  go_wp2
                                  repeat (go_quiet (fail); try go_wp2)
                                  go_ret2
                                  exact ⟨by first | rfl | (simp; done) | (simp [*]; done), by repeat (first | exact Drawn0.refl _ | apply Drawn0.step)⟩
                        · rw [if_neg c35] at H
                          have c35b0 : (a0.toList == ([99, 111, 110, 99, 97, 116] : List UInt8)) = false := beq_eq_false_iff_ne.mpr c35
                          have c35b1 : (a0.toList != ([99, 111, 110, 99, 97, 116] : List UInt8)) = true := bne_iff_ne.mpr c35
                          by_cases c42 : a0.toList = ([108, 101, 110, 103, 116, 104] : List UInt8)
                          · rw [if_pos c42] at H
                            have c42b0 : (a0.toList == ([108, 101, 110, 103, 116, 104] : List UInt8)) = true := beq_iff_eq.mpr c42
                            have c42b1 : (a0.toList != ([108, 101, 110, 103, 116, 104] : List UInt8)) = false := bne_eq_false_iff_eq.mpr c42
                            clear c42
                            by_cases c43 : (l1.length : Int) = 1
                            · rw [if_pos c43] at H
                              have c43b0 : ((l1.length : Int) == 1) = true := beq_iff_eq.mpr c43
                              have c43b1 : ((l1.length : Int) != 1) = false := bne_eq_false_iff_eq.mpr c43
                              clear c43
                              by_cases c44 : 0 < (l1.length : Int)
                              · rw [if_pos c44] at H
                                have c44b0 : decide (0 < (l1.length : Int)) = true := decide_eq_true c44
                                have c44b1 : decide (0 < l1.length) = true := decide_eq_true (by omega)
                                clear c44
                                replace H := Option.bind_eq_some_iff.mp H
                                obtain ⟨t185, A450, H⟩ := H
                                replace H : (if t185 = true then (some (2, 0)) else (some (0, 100))) = some (r1, r2) := H
                                have A45 := Aside0.mk A450
                                clear A450
                                by_cases c46 : t185 = true
                                · subst c46
                                  have H1 : (some (2, 0)) = some (r1, r2) := by rw [if_pos rfl] at H; exact H
                                  clear H
                                  have H := H1
                                  clear H1
                                  simp only [Option.some.injEq, Prod.mk.injEq] at H
                                  obtain ⟨rfl, rfl⟩ := H
                                  have p184 : 0 ≤ (0 : Int) := (by omega)
                                  have q184 : 0 < (l1.length : Int) := of_decide_eq_true (by first | (with_reducible assumption) | assumption)
                                  obtain ⟨ad184, e184, hx184_0⟩ := Kd.at_int HR1.out 0 p184 q184
                                  cases e184
                                  have qi184 : (0 < l1.length) = True := eq_true (by omega)
                                  (try rw [show ((0 : Int)).toNat = 0 from rfl] at hx184_0)
                                  (try rw [Addr.add_zero'] at hx184_0)
                                  replace p184 := eq_true p184
                                  replace q184 := eq_true q184
                                  go_wp2_with (first | (go_at_call 26; (with_reducible refine (marqueeref10_text.calls (rd l1 0) true _ A45.out).mono ?_); rintro e w' ⟨rfl, ⟨nd, rfl⟩⟩; (try first | exact ⟨rfl, _, World.drewN_drewN _ _ _⟩ | exact ⟨rfl, _, Eq.trans (World.drewN_drewN _ _ _) (congrArg (World.drewN _) (Nat.add_assoc _ _ _))⟩)))
                                  repeat (go_quiet (first | (go_at_call 26; (with_reducible refine (marqueeref10_text.calls (rd l1 0) true _ A45.out).mono ?_); rintro e w' ⟨rfl, ⟨nd, rfl⟩⟩; (try first | exact ⟨rfl, _, World.drewN_drewN _ _ _⟩ | exact ⟨rfl, _, Eq.trans (World.drewN_drewN _ _ _) (congrArg (World.drewN _) (Nat.add_assoc _ _ _))⟩))); try go_wp2_with (first | (go_at_call 26; (with_reducible refine (marqueeref10_text.calls (rd l1 0) true _ A45.out).mono ?_); rintro e w' ⟨rfl, ⟨nd, rfl⟩⟩; (try first | exact ⟨rfl, _, World.drewN_drewN _ _ _⟩ | exact ⟨rfl, _, Eq.trans (World.drewN_drewN _ _ _) (congrArg (World.drewN _) (Nat.add_assoc _ _ _))⟩))))
                                  go_ret2
                                  exact ⟨by first | rfl | (simp; done) | (simp [*]; done), by repeat (first | exact Drawn0.refl _ | apply Drawn0.step)⟩
                                · replace c46 := Bool.eq_false_iff.mpr c46
                                  subst c46
                                  have H1 : (some (0, 100)) = some (r1, r2) := by rw [if_neg (show ¬ (false = true) by decide)] at H; exact H
                                  clear H
                                  have H := H1
                                  clear H1
                                  simp only [Option.some.injEq, Prod.mk.injEq] at H
                                  obtain ⟨rfl, rfl⟩ := H
                                  have p184 : 0 ≤ (0 : Int) := (by omega)
                                  have q184 : 0 < (l1.length : Int) := of_decide_eq_true (by first | (with_reducible assumption) | assumption)
                                  obtain ⟨ad184, e184, hx184_0⟩ := Kd.at_int HR1.out 0 p184 q184
                                  cases e184
                                  have qi184 : (0 < l1.length) = True := eq_true (by omega)
                                  (try rw [show ((0 : Int)).toNat = 0 from rfl] at hx184_0)
                                  (try rw [Addr.add_zero'] at hx184_0)
                                  replace p184 := eq_true p184
                                  replace q184 := eq_true q184
                                  go_wp2_with (first | (go_at_call 26; (with_reducible refine (marqueeref10_text.calls (rd l1 0) false _ A45.out).mono ?_); rintro e w' ⟨rfl, ⟨nd, rfl⟩⟩; (try first | exact ⟨rfl, _, World.drewN_drewN _ _ _⟩ | exact ⟨rfl, _, Eq.trans (World.drewN_drewN _ _ _) (congrArg (World.drewN _) (Nat.add_assoc _ _ _))⟩)))
                                  repeat (go_quiet (first | (go_at_call 26; (with_reducible refine (marqueeref10_text.calls (rd l1 0) false _ A45.out).mono ?_); rintro e w' ⟨rfl, ⟨nd, rfl⟩⟩; (try first | exact ⟨rfl, _, World.drewN_drewN _ _ _⟩ | exact ⟨rfl, _, Eq.trans (World.drewN_drewN _ _ _) (congrArg (World.drewN _) (Nat.add_assoc _ _ _))⟩))); try go_wp2_with (first | (go_at_call 26; (with_reducible refine (marqueeref10_text.calls (rd l1 0) false _ A45.out).mono ?_); rintro e w' ⟨rfl, ⟨nd, rfl⟩⟩; (try first | exact ⟨rfl, _, World.drewN_drewN _ _ _⟩ | exact ⟨rfl, _, Eq.trans (World.drewN_drewN _ _ _) (congrArg (World.drewN _) (Nat.add_assoc _ _ _))⟩))))
                                  go_ret2
                                  exact ⟨by first | rfl | (simp; done) | (simp [*]; done), by repeat (first | exact Drawn0.refl _ | apply Drawn0.step)⟩
                              · rw [if_neg c44] at H
                                exact absurd H (by simp)
                            · rw [if_neg c43] at H
                              have c43b0 : ((l1.length : Int) == 1) = false := beq_eq_false_iff_ne.mpr c43
                              have c43b1 : ((l1.length : Int) != 1) = true := bne_iff_ne.mpr c43
                              simp only [Option.some.injEq, Prod.mk.injEq] at H
                              obtain ⟨rfl, rfl⟩ := H
                              go_wp2
                              repeat (go_quiet (fail); try go_wp2)
                              go_ret2
                              exact ⟨by first | rfl | (simp; done) | (simp [*]; done), by repeat (first | exact Drawn0.refl _ | apply Drawn0.step)⟩
                          · rw [if_neg c42] at H
                            have c42b0 : (a0.toList == ([108, 101, 110, 103, 116, 104] : List UInt8)) = false := beq_eq_false_iff_ne.mpr c42
                            have c42b1 : (a0.toList != ([108, 101, 110, 103, 116, 104] : List UInt8)) = true := bne_iff_ne.mpr c42
                            have HC47 := Aside0.mk H
                            clear H
                            go_upto_if 101 with (fail)
                            repeat (go_quiet (fail); go_upto_if 101 with (fail))
                            go_cut [101] (fun v101 wc => ∃ (kq : Nat) (x101_46 : Bool), v101 = .bool x101_46 ∧ Aside0 (marqueeref10_Kind.j4 kq l1 (l1.length : Int) false 0 a0 x101_46 = some (r1, r2)) ∧ Aside0 (kq ≤ kj27) ∧ Drawn0 w wc)
                            case first =>
                              have H := HC47.out
                              clear HC47
                              by_cases c48 : a0.toList = ([108, 111, 119, 101, 114] : List UInt8)
                              · rw [if_pos c48] at H
                                have c48b0 : (a0.toList == ([108, 111, 119, 101, 114] : List UInt8)) = true := beq_iff_eq.mpr c48
                                have c48b1 : (a0.toList != ([108, 111, 119, 101, 114] : List UInt8)) = false := bne_eq_false_iff_eq.mpr c48
                                clear c48
                                (first | rw [c48b0] | (simp only [i64_w, i32_w]; rw [c48b0]) | skip)
                                have H' := Aside0.mk H
                                clear H
                                go_wp2
                                repeat (go_quiet (fail); try go_wp2)
                                go_meet
                                case rel => exact ⟨_, ((a0.toList == ([108, 111, 119, 101, 114] : List UInt8))), (by first | rfl | (simp; done) | (simp [*]; done)), H', ⟨by have := HK1.out; have := HJ12.out; have := HJ27.out; first | omega | exact Nat.le_refl _⟩, by repeat (first | exact Drawn0.refl _ | apply Drawn0.step)⟩
                              · rw [if_neg c48] at H
                                have c48b0 : (a0.toList == ([108, 111, 119, 101, 114] : List UInt8)) = false := beq_eq_false_iff_ne.mpr c48
                                have c48b1 : (a0.toList != ([108, 111, 119, 101, 114] : List UInt8)) = true := bne_iff_ne.mpr c48
                                (first | rw [c48b0] | (simp only [i64_w, i32_w]; rw [c48b0]) | skip)
                                by_cases c49 : a0.toList = ([116, 114, 105, 109] : List UInt8)
                                · rw [if_pos c49] at H
                                  have c49b0 : (a0.toList == ([116, 114, 105, 109] : List UInt8)) = true := beq_iff_eq.mpr c49
                                  have c49b1 : (a0.toList != ([116, 114, 105, 109] : List UInt8)) = false := bne_eq_false_iff_eq.mpr c49
                                  clear c49
                                  have H' := Aside0.mk H
                                  clear H
                                  go_wp2
                                  repeat (go_quiet (fail); try go_wp2)
                                  go_meet
                                  case rel => exact ⟨_, ((a0.toList == ([116, 114, 105, 109] : List UInt8))), (by first | rfl | (simp; done) | (simp [*]; done)), H', ⟨by have := HK1.out; have := HJ12.out; have := HJ27.out; first | omega | exact Nat.le_refl _⟩, by repeat (first | exact Drawn0.refl _ | apply Drawn0.step)⟩
                                · rw [if_neg c49] at H
                                  have c49b0 : (a0.toList == ([116, 114, 105, 109] : List UInt8)) = false := beq_eq_false_iff_ne.mpr c49
                                  have c49b1 : (a0.toList != ([116, 114, 105, 109] : List UInt8)) = true := bne_iff_ne.mpr c49
                                  have H' := Aside0.mk H
                                  clear H
                                  go_wp2
                                  repeat (go_quiet (fail); try go_wp2)
                                  go_meet
                                  case rel => exact ⟨_, ((a0.toList == ([117, 112, 112, 101, 114] : List UInt8))), (by first | rfl | (simp; done) | (simp [*]; done)), H', ⟨by have := HK1.out; have := HJ12.out; have := HJ27.out; first | omega | exact Nat.le_refl _⟩, by repeat (first | exact Drawn0.refl _ | apply Drawn0.step)⟩
                            case rest =>
                              clear HC47
                              try clear c1
                              try clear p1
                              try clear q1
                              try clear hx1
                              try clear qi1
                              try clear c2
                              try clear p2
                              try clear c3
                              try clear c3b0
                              try clear c4
                              try clear c4b0
                              try clear c5
                              try clear c5b0
                              try clear p6
                              try clear c7
                              try clear c8
                              try clear c8b0
                              try clear c8b1
                              try clear c9
                              try clear c9b0
                              try clear c9b1
                              try clear c10
                              try clear c10b0
                              try clear c10b1
                              try clear c11
                              try clear c12
                              try clear c14
                              try clear c14b0
                              try clear c14b1
                              try clear c15
                              try clear c15b0
                              try clear c15b1
                              try clear c16
                              try clear c16b0
                              try clear c16b1
                              try clear c17
                              try clear c17b0
                              try clear c17b1
                              try clear p17
                              try clear q17
                              try clear hx17
                              try clear qi17
                              try clear c18
                              try clear p18
                              try clear q18
                              try clear hx18
                              try clear qi18
                              try clear c19
                              try clear c19b0
                              try clear c19b1
                              try clear c20
                              try clear c20b0
                              try clear c20b1
                              try clear c22
                              try clear c23
                              try clear c23b0
                              try clear c23b1
                              try clear c24
                              try clear c24b0
                              try clear c24b1
                              try clear c25
                              try clear c25b0
                              try clear c25b1
                              try clear c27
                              try clear c29
                              try clear c29b0
                              try clear c29b1
                              try clear c30
                              try clear c30b0
                              try clear c30b1
                              try clear c31
                              try clear c33
                              try clear c34
                              try clear c34b0
                              try clear c34b1
                              try clear c35
                              try clear c35b0
                              try clear c35b1
                              try clear c36
                              try clear c36b0
                              try clear c37
                              try clear c38
                              try clear c38b0
                              try clear c39
                              try clear c39b0
                              try clear c41
                              try clear c42
                              try clear c42b0
                              try clear c42b1
                              try clear c43
                              try clear c43b0
                              try clear c43b1
                              try clear c44
                              try clear c44b0
                              try clear c44b1
                              try clear c46
                              try clear c48
                              try clear c48b0
                              try clear c48b1
                              try clear c49
                              try clear c49b0
                              try clear c49b1
                              try clear hx171_0
                              try clear hx173_0
                              try clear hx175_0
                              try clear hx176_0
                              try clear hx178_0
                              try clear hx182_0
                              try clear hx184_0
                              try clear p1
                              try clear p17
                              try clear p171
                              try clear p173
                              try clear p175
                              try clear p176
                              try clear p178
                              try clear p182
                              try clear p184
                              try clear p2
                              try clear p6
                              try clear q1
                              try clear q17
                              try clear q171
                              try clear q173
                              try clear q175
                              try clear q176
                              try clear q178
                              try clear q182
                              try clear q184
                              obtain ⟨kq, x101_46, rfl, HA, HJ46, ⟨mc46, rfl⟩⟩ := hcut
                              cases kq with
                              | zero => exact absurd HA.out (by simp [marqueeref10_Kind.j4])
                              | succ kj46 =>
                                have H := HA.out
                                clear HA
                                simp only [marqueeref10_Kind.j4] at H
                                by_cases c50 : x101_46 = true
                                · subst c50
                                  have H1 : (if (l1.length : Int) = 1 then (if 0 < (l1.length : Int) then ((marqueeref10_text.f (rd l1 0)).bind fun t187 => (if t187 = true then (some (4, 0)) else (some (0, 100)))) else (none)) else (some (0, 100))) = some (r1, r2) := by rw [if_pos rfl] at H; exact H
                                  clear H
                                  have H := H1
                                  clear H1
                                  by_cases c51 : (l1.length : Int) = 1
                                  · rw [if_pos c51] at H
                                    have c51b0 : ((l1.length : Int) == 1) = true := beq_iff_eq.mpr c51
                                    have c51b1 : ((l1.length : Int) != 1) = false := bne_eq_false_iff_eq.mpr c51
                                    clear c51
                                    by_cases c52 : 0 < (l1.length : Int)
                                    · rw [if_pos c52] at H
                                      have c52b0 : decide (0 < (l1.length : Int)) = true := decide_eq_true c52
                                      have c52b1 : decide (0 < l1.length) = true := decide_eq_true (by omega)
                                      clear c52
                                      replace H := Option.bind_eq_some_iff.mp H
                                      obtain ⟨t187, A530, H⟩ := H
                                      replace H : (if t187 = true then (some (4, 0)) else (some (0, 100))) = some (r1, r2) := H
                                      have A53 := Aside0.mk A530
                                      clear A530
                                      by_cases c54 : t187 = true
                                      · subst c54
                                        have H1 : (some (4, 0)) = some (r1, r2) := by rw [if_pos rfl] at H; exact H
                                        clear H
                                        have H := H1
                                        clear H1
                                        simp only [Option.some.injEq, Prod.mk.injEq] at H
                                        obtain ⟨rfl, rfl⟩ := H
                                        have p186 : 0 ≤ (0 : Int) := (by omega)
                                        have q186 : 0 < (l1.length : Int) := of_decide_eq_true (by first | (with_reducible assumption) | assumption)
                                        obtain ⟨ad186, e186, hx186_0⟩ := Kd.at_int HR1.out 0 p186 q186
                                        cases e186
                                        have qi186 : (0 < l1.length) = True := eq_true (by omega)
                                        (try rw [show ((0 : Int)).toNat = 0 from rfl] at hx186_0)
                                        (try rw [Addr.add_zero'] at hx186_0)
                                        replace p186 := eq_true p186
                                        replace q186 := eq_true q186
                                        go_wp2_with (first | (go_at_call 26; (with_reducible refine (marqueeref10_text.calls (rd l1 0) true _ A53.out).mono ?_); rintro e w' ⟨rfl, ⟨nd, rfl⟩⟩; (try first | exact ⟨rfl, _, World.drewN_drewN _ _ _⟩ | exact ⟨rfl, _, Eq.trans (World.drewN_drewN _ _ _) (congrArg (World.drewN _) (Nat.add_assoc _ _ _))⟩)))
                                        repeat (go_quiet (first | (go_at_call 26; (with_reducible refine (marqueeref10_text.calls (rd l1 0) true _ A53.out).mono ?_); rintro e w' ⟨rfl, ⟨nd, rfl⟩⟩; (try first | exact ⟨rfl, _, World.drewN_drewN _ _ _⟩ | exact ⟨rfl, _, Eq.trans (World.drewN_drewN _ _ _) (congrArg (World.drewN _) (Nat.add_assoc _ _ _))⟩))); try go_wp2_with (first | (go_at_call 26; (with_reducible refine (marqueeref10_text.calls (rd l1 0) true _ A53.out).mono ?_); rintro e w' ⟨rfl, ⟨nd, rfl⟩⟩; (try first | exact ⟨rfl, _, World.drewN_drewN _ _ _⟩ | exact ⟨rfl, _, Eq.trans (World.drewN_drewN _ _ _) (congrArg (World.drewN _) (Nat.add_assoc _ _ _))⟩))))
                                        go_ret2
                                        exact ⟨by first | rfl | (simp; done) | (simp [*]; done), by repeat (first | exact Drawn0.refl _ | apply Drawn0.step)⟩
                                      · replace c54 := Bool.eq_false_iff.mpr c54
                                        subst c54
                                        have H1 : (some (0, 100)) = some (r1, r2) := by rw [if_neg (show ¬ (false = true) by decide)] at H; exact H
                                        clear H
                                        have H := H1
                                        clear H1
                                        simp only [Option.some.injEq, Prod.mk.injEq] at H
                                        obtain ⟨rfl, rfl⟩ := H
                                        have p186 : 0 ≤ (0 : Int) := (by omega)
                                        have q186 : 0 < (l1.length : Int) := of_decide_eq_true (by first | (with_reducible assumption) | assumption)
                                        obtain ⟨ad186, e186, hx186_0⟩ := Kd.at_int HR1.out 0 p186 q186
                                        cases e186
                                        have qi186 : (0 < l1.length) = True := eq_true (by omega)
                                        (try rw [show ((0 : Int)).toNat = 0 from rfl] at hx186_0)
                                        (try rw [Addr.add_zero'] at hx186_0)
                                        replace p186 := eq_true p186
                                        replace q186 := eq_true q186
                                        go_wp2_with (first | (go_at_call 26; (with_reducible refine (marqueeref10_text.calls (rd l1 0) false _ A53.out).mono ?_); rintro e w' ⟨rfl, ⟨nd, rfl⟩⟩; (try first | exact ⟨rfl, _, World.drewN_drewN _ _ _⟩ | exact ⟨rfl, _, Eq.trans (World.drewN_drewN _ _ _) (congrArg (World.drewN _) (Nat.add_assoc _ _ _))⟩)))
                                        repeat (go_quiet (first | (go_at_call 26; (with_reducible refine (marqueeref10_text.calls (rd l1 0) false _ A53.out).mono ?_); rintro e w' ⟨rfl, ⟨nd, rfl⟩⟩; (try first | exact ⟨rfl, _, World.drewN_drewN _ _ _⟩ | exact ⟨rfl, _, Eq.trans (World.drewN_drewN _ _ _) (congrArg (World.drewN _) (Nat.add_assoc _ _ _))⟩))); try go_wp2_with (first | (go_at_call 26; (with_reducible refine (marqueeref10_text.calls (rd l1 0) false _ A53.out).mono ?_); rintro e w' ⟨rfl, ⟨nd, rfl⟩⟩; (try first | exact ⟨rfl, _, World.drewN_drewN _ _ _⟩ | exact ⟨rfl, _, Eq.trans (World.drewN_drewN _ _ _) (congrArg (World.drewN _) (Nat.add_assoc _ _ _))⟩))))
                                        go_ret2
                                        exact ⟨by first | rfl | (simp; done) | (simp [*]; done), by repeat (first | exact Drawn0.refl _ | apply Drawn0.step)⟩
                                    · rw [if_neg c52] at H
                                      exact absurd H (by simp)
                                  · rw [if_neg c51] at H
                                    have c51b0 : ((l1.length : Int) == 1) = false := beq_eq_false_iff_ne.mpr c51
                                    have c51b1 : ((l1.length : Int) != 1) = true := bne_iff_ne.mpr c51
                                    simp only [Option.some.injEq, Prod.mk.injEq] at H
                                    obtain ⟨rfl, rfl⟩ := H
                                    go_wp2
                                    repeat (go_quiet (fail); try go_wp2)
                                    go_ret2
                                    exact ⟨by first | rfl | (simp; done) | (simp [*]; done), by repeat (first | exact Drawn0.refl _ | apply Drawn0.step)⟩
                                · replace c50 := Bool.eq_false_iff.mpr c50
                                  subst c50
                                  have H1 : (if a0.toList = ([110, 117, 108, 108, 105, 102] : List UInt8) then ((marqueeref10_alike.f kj46 l1).bind fun bt188 => (if bt188.2 = true then (marqueeref10_Kind.j5 kj46 l1 ((l1.length : Int) == 2)) else (marqueeref10_Kind.j5 kj46 l1 false))) else (if a0.toList = ([115, 117, 98, 115, 116, 114] : List UInt8) then (if (l1.length : Int) = 3 then (if 0 < (l1.length : Int) then ((marqueeref10_text.f (rd l1 0)).bind fun t192 => (if t192 = true then (if 1 < (l1.length : Int) then ((marqueeref10_whole.f (rd l1 1)).bind fun t194 => (if t194 = true then (if 2 < (l1.length : Int) then ((marqueeref10_whole.f (rd l1 2)).bind fun t196 => (if t196 = true then (some (4, 0)) else (some (0, 100)))) else (none)) else (some (0, 100)))) else (none)) else (some (0, 100)))) else (none)) else (some (0, 100))) else (if a0.toList = ([116, 111, 116, 101, 120, 116] : List UInt8) then (if (l1.length : Int) = 1 then (some (4, 0)) else (some (0, 100))) else (if false = true then (some (0, 0)) else (some (0, 100)))))) = some (r1, r2) := by rw [if_neg (show ¬ (false = true) by decide)] at H; exact H
                                  clear H
                                  have H := H1
                                  clear H1
                                  by_cases c55 : a0.toList = ([110, 117, 108, 108, 105, 102] : List UInt8)
                                  · rw [if_pos c55] at H
                                    have c55b0 : (a0.toList == ([110, 117, 108, 108, 105, 102] : List UInt8)) = true := beq_iff_eq.mpr c55
                                    have c55b1 : (a0.toList != ([110, 117, 108, 108, 105, 102] : List UInt8)) = false := bne_eq_false_iff_eq.mpr c55
                                    clear c55
                                    replace H := Option.bind_eq_some_iff.mp H
                                    obtain ⟨⟨t188, t189⟩, A560, H⟩ := H
                                    replace H : (if t189 = true then (marqueeref10_Kind.j5 kj46 l1 ((l1.length : Int) == 2)) else (marqueeref10_Kind.j5 kj46 l1 false)) = some (r1, r2) := H
                                    have A56 := Aside0.mk A560
                                    clear A560
                                    have HC57 := Aside0.mk H
                                    clear H
                                    go_upto_region 39 with (first | (go_at_call 25; (with_reducible refine (marqueeref10_alike.calls kj46 _ _ l1 t188 t189 _ ?side1 ?side2 A56.out).mono ?_); (case side1 => repeat (first | exact HR1.out | (with_reducible refine Kd.C_alloc ?_ _) | (with_reducible refine Kd.C_drewN ?_ _) | (with_reducible refine Kd.C_drew ?_))); (case side2 => exact HC1.out); rintro e w' ⟨rfl, ⟨nd, rfl⟩⟩; (try first | exact ⟨rfl, _, World.drewN_drewN _ _ _⟩ | exact ⟨rfl, _, Eq.trans (World.drewN_drewN _ _ _) (congrArg (World.drewN _) (Nat.add_assoc _ _ _))⟩)))
                                    repeat (go_quiet (first | (go_at_call 25; (with_reducible refine (marqueeref10_alike.calls kj46 _ _ l1 t188 t189 _ ?side1 ?side2 A56.out).mono ?_); (case side1 => repeat (first | exact HR1.out | (with_reducible refine Kd.C_alloc ?_ _) | (with_reducible refine Kd.C_drewN ?_ _) | (with_reducible refine Kd.C_drew ?_))); (case side2 => exact HC1.out); rintro e w' ⟨rfl, ⟨nd, rfl⟩⟩; (try first | exact ⟨rfl, _, World.drewN_drewN _ _ _⟩ | exact ⟨rfl, _, Eq.trans (World.drewN_drewN _ _ _) (congrArg (World.drewN _) (Nat.add_assoc _ _ _))⟩))); go_upto_region 39 with (first | (go_at_call 25; (with_reducible refine (marqueeref10_alike.calls kj46 _ _ l1 t188 t189 _ ?side1 ?side2 A56.out).mono ?_); (case side1 => repeat (first | exact HR1.out | (with_reducible refine Kd.C_alloc ?_ _) | (with_reducible refine Kd.C_drewN ?_ _) | (with_reducible refine Kd.C_drew ?_))); (case side2 => exact HC1.out); rintro e w' ⟨rfl, ⟨nd, rfl⟩⟩; (try first | exact ⟨rfl, _, World.drewN_drewN _ _ _⟩ | exact ⟨rfl, _, Eq.trans (World.drewN_drewN _ _ _) (congrArg (World.drewN _) (Nat.add_assoc _ _ _))⟩))))
                                    (try simp only [Act.put, List.setIfInBounds_toArray, List.set_cons_zero, List.set_cons_succ])
                                    go_cut [8] (fun v8 wc => ∃ (kq : Nat) (x8_56 : Bool), v8 = .bool x8_56 ∧ Aside0 (marqueeref10_Kind.j5 kq l1 x8_56 = some (r1, r2)) ∧ Aside0 (kq ≤ kj46) ∧ Drawn0 w wc)
                                    case first =>
                                      have H := HC57.out
                                      clear HC57
                                      by_cases c58 : t189 = true
                                      · subst c58
                                        have H1 : (marqueeref10_Kind.j5 kj46 l1 ((l1.length : Int) == 2)) = some (r1, r2) := by rw [if_pos rfl] at H; exact H
                                        clear H
                                        have H := H1
                                        clear H1
                                        have H' := Aside0.mk H
                                        clear H
                                        go_wp2
                                        repeat (go_quiet (fail); try go_wp2)
                                        go_meet
                                        case rel => exact ⟨_, (((l1.length : Int) == 2)), (by first | rfl | (simp; done) | (simp [*]; done)), H', ⟨by have := HK1.out; have := HJ12.out; have := HJ27.out; have := HJ46.out; first | omega | exact Nat.le_refl _⟩, by repeat (first | exact Drawn0.refl _ | apply Drawn0.step)⟩
                                      · replace c58 := Bool.eq_false_iff.mpr c58
                                        subst c58
                                        have H1 : (marqueeref10_Kind.j5 kj46 l1 false) = some (r1, r2) := by rw [if_neg (show ¬ (false = true) by decide)] at H; exact H
                                        clear H
                                        have H := H1
                                        clear H1
                                        have H' := Aside0.mk H
                                        clear H
                                        go_wp2
                                        repeat (go_quiet (fail); try go_wp2)
                                        go_meet
                                        case rel => exact ⟨_, (false), (by first | rfl | (simp; done) | (simp [*]; done)), H', ⟨by have := HK1.out; have := HJ12.out; have := HJ27.out; have := HJ46.out; first | omega | exact Nat.le_refl _⟩, by repeat (first | exact Drawn0.refl _ | apply Drawn0.step)⟩
                                    case rest =>
                                      clear HC57
                                      try clear c1
                                      try clear p1
                                      try clear q1
                                      try clear hx1
                                      try clear qi1
                                      try clear c2
                                      try clear p2
                                      try clear c3
                                      try clear c3b0
                                      try clear c4
                                      try clear c4b0
                                      try clear c5
                                      try clear c5b0
                                      try clear p6
                                      try clear c7
                                      try clear c8
                                      try clear c8b0
                                      try clear c8b1
                                      try clear c9
                                      try clear c9b0
                                      try clear c9b1
                                      try clear c10
                                      try clear c10b0
                                      try clear c10b1
                                      try clear c11
                                      try clear c12
                                      try clear c14
                                      try clear c14b0
                                      try clear c14b1
                                      try clear c15
                                      try clear c15b0
                                      try clear c15b1
                                      try clear c16
                                      try clear c16b0
                                      try clear c16b1
                                      try clear c17
                                      try clear c17b0
                                      try clear c17b1
                                      try clear p17
                                      try clear q17
                                      try clear hx17
                                      try clear qi17
                                      try clear c18
                                      try clear p18
                                      try clear q18
                                      try clear hx18
                                      try clear qi18
                                      try clear c19
                                      try clear c19b0
                                      try clear c19b1
                                      try clear c20
                                      try clear c20b0
                                      try clear c20b1
                                      try clear c22
                                      try clear c23
                                      try clear c23b0
                                      try clear c23b1
                                      try clear c24
                                      try clear c24b0
                                      try clear c24b1
                                      try clear c25
                                      try clear c25b0
                                      try clear c25b1
                                      try clear c27
                                      try clear c29
                                      try clear c29b0
                                      try clear c29b1
                                      try clear c30
                                      try clear c30b0
                                      try clear c30b1
                                      try clear c31
                                      try clear c33
                                      try clear c34
                                      try clear c34b0
                                      try clear c34b1
                                      try clear c35
                                      try clear c35b0
                                      try clear c35b1
                                      try clear c36
                                      try clear c36b0
                                      try clear c37
                                      try clear c38
                                      try clear c38b0
                                      try clear c39
                                      try clear c39b0
                                      try clear c41
                                      try clear c42
                                      try clear c42b0
                                      try clear c42b1
                                      try clear c43
                                      try clear c43b0
                                      try clear c43b1
                                      try clear c44
                                      try clear c44b0
                                      try clear c44b1
                                      try clear c46
                                      try clear c48
                                      try clear c48b0
                                      try clear c48b1
                                      try clear c49
                                      try clear c49b0
                                      try clear c49b1
                                      try clear c50
                                      try clear c51
                                      try clear c51b0
                                      try clear c51b1
                                      try clear c52
                                      try clear c52b0
                                      try clear c52b1
                                      try clear c54
                                      try clear c55
                                      try clear c55b0
                                      try clear c55b1
                                      try clear c58
                                      try clear hx171_0
                                      try clear hx173_0
                                      try clear hx175_0
                                      try clear hx176_0
                                      try clear hx178_0
                                      try clear hx182_0
                                      try clear hx184_0
                                      try clear hx186_0
                                      try clear p1
                                      try clear p17
                                      try clear p171
                                      try clear p173
                                      try clear p175
                                      try clear p176
                                      try clear p178
                                      try clear p18
                                      try clear p182
                                      try clear p184
                                      try clear p186
                                      try clear p2
                                      try clear p6
                                      try clear q1
                                      try clear q17
                                      try clear q171
                                      try clear q173
                                      try clear q175
                                      try clear q176
                                      try clear q178
                                      try clear q18
                                      try clear q182
                                      try clear q184
                                      try clear q186
                                      obtain ⟨kq, x8_56, rfl, HA, HJ56, ⟨mc56, rfl⟩⟩ := hcut
                                      cases kq with
                                      | zero => exact absurd HA.out (by simp [marqueeref10_Kind.j5])
                                      | succ kj56 =>
                                        have H := HA.out
                                        clear HA
                                        simp only [marqueeref10_Kind.j5] at H
                                        by_cases c59 : x8_56 = true
                                        · subst c59
                                          have H1 : (if 0 < (l1.length : Int) then (some (rd l1 0, 0)) else (none)) = some (r1, r2) := by rw [if_pos rfl] at H; exact H
                                          clear H
                                          have H := H1
                                          clear H1
                                          by_cases c60 : 0 < (l1.length : Int)
                                          · rw [if_pos c60] at H
                                            have c60b0 : decide (0 < (l1.length : Int)) = true := decide_eq_true c60
                                            have c60b1 : decide (0 < l1.length) = true := decide_eq_true (by omega)
                                            clear c60
                                            simp only [Option.some.injEq, Prod.mk.injEq] at H
                                            obtain ⟨rfl, rfl⟩ := H
                                            have p190 : 0 ≤ (0 : Int) := (by omega)
                                            have q190 : 0 < (l1.length : Int) := of_decide_eq_true (by first | (with_reducible assumption) | assumption)
                                            obtain ⟨ad190, e190, hx190_0⟩ := Kd.at_int HR1.out 0 p190 q190
                                            cases e190
                                            have qi190 : (0 < l1.length) = True := eq_true (by omega)
                                            (try rw [show ((0 : Int)).toNat = 0 from rfl] at hx190_0)
                                            (try rw [Addr.add_zero'] at hx190_0)
                                            replace p190 := eq_true p190
                                            replace q190 := eq_true q190
                                            go_wp2
                                            repeat (go_quiet (fail); try go_wp2)
                                            go_ret2
                                            exact ⟨by first | rfl | (simp; done) | (simp [*]; done), by repeat (first | exact Drawn0.refl _ | apply Drawn0.step)⟩
                                          · rw [if_neg c60] at H
                                            exact absurd H (by simp)
                                        · replace c59 := Bool.eq_false_iff.mpr c59
                                          subst c59
                                          have H1 : (some (0, 100)) = some (r1, r2) := by rw [if_neg (show ¬ (false = true) by decide)] at H; exact H
                                          clear H
                                          have H := H1
                                          clear H1
                                          simp only [Option.some.injEq, Prod.mk.injEq] at H
                                          obtain ⟨rfl, rfl⟩ := H
                                          go_wp2
                                          repeat (go_quiet (fail); try go_wp2)
                                          go_ret2
                                          exact ⟨by first | rfl | (simp; done) | (simp [*]; done), by repeat (first | exact Drawn0.refl _ | apply Drawn0.step)⟩
                                  · rw [if_neg c55] at H
                                    have c55b0 : (a0.toList == ([110, 117, 108, 108, 105, 102] : List UInt8)) = false := beq_eq_false_iff_ne.mpr c55
                                    have c55b1 : (a0.toList != ([110, 117, 108, 108, 105, 102] : List UInt8)) = true := bne_iff_ne.mpr c55
                                    by_cases c61 : a0.toList = ([115, 117, 98, 115, 116, 114] : List UInt8)
                                    · rw [if_pos c61] at H
                                      have c61b0 : (a0.toList == ([115, 117, 98, 115, 116, 114] : List UInt8)) = true := beq_iff_eq.mpr c61
                                      have c61b1 : (a0.toList != ([115, 117, 98, 115, 116, 114] : List UInt8)) = false := bne_eq_false_iff_eq.mpr c61
                                      clear c61
                                      by_cases c62 : (l1.length : Int) = 3
                                      · rw [if_pos c62] at H
                                        have c62b0 : ((l1.length : Int) == 3) = true := beq_iff_eq.mpr c62
                                        have c62b1 : ((l1.length : Int) != 3) = false := bne_eq_false_iff_eq.mpr c62
                                        clear c62
                                        by_cases c63 : 0 < (l1.length : Int)
                                        · rw [if_pos c63] at H
                                          have c63b0 : decide (0 < (l1.length : Int)) = true := decide_eq_true c63
                                          have c63b1 : decide (0 < l1.length) = true := decide_eq_true (by omega)
                                          clear c63
                                          replace H := Option.bind_eq_some_iff.mp H
                                          obtain ⟨t192, A640, H⟩ := H
                                          replace H : (if t192 = true then (if 1 < (l1.length : Int) then ((marqueeref10_whole.f (rd l1 1)).bind fun t194 => (if t194 = true then (if 2 < (l1.length : Int) then ((marqueeref10_whole.f (rd l1 2)).bind fun t196 => (if t196 = true then (some (4, 0)) else (some (0, 100)))) else (none)) else (some (0, 100)))) else (none)) else (some (0, 100))) = some (r1, r2) := H
                                          have A64 := Aside0.mk A640
                                          clear A640
                                          by_cases c65 : t192 = true
                                          · subst c65
                                            have H1 : (if 1 < (l1.length : Int) then ((marqueeref10_whole.f (rd l1 1)).bind fun t194 => (if t194 = true then (if 2 < (l1.length : Int) then ((marqueeref10_whole.f (rd l1 2)).bind fun t196 => (if t196 = true then (some (4, 0)) else (some (0, 100)))) else (none)) else (some (0, 100)))) else (none)) = some (r1, r2) := by rw [if_pos rfl] at H; exact H
                                            clear H
                                            have H := H1
                                            clear H1
                                            by_cases c66 : 1 < (l1.length : Int)
                                            · rw [if_pos c66] at H
                                              have c66b0 : decide (1 < (l1.length : Int)) = true := decide_eq_true c66
                                              have c66b1 : decide (1 < l1.length) = true := decide_eq_true (by omega)
                                              clear c66
                                              replace H := Option.bind_eq_some_iff.mp H
                                              obtain ⟨t194, A670, H⟩ := H
                                              replace H : (if t194 = true then (if 2 < (l1.length : Int) then ((marqueeref10_whole.f (rd l1 2)).bind fun t196 => (if t196 = true then (some (4, 0)) else (some (0, 100)))) else (none)) else (some (0, 100))) = some (r1, r2) := H
                                              have A67 := Aside0.mk A670
                                              clear A670
                                              by_cases c68 : t194 = true
                                              · subst c68
                                                have H1 : (if 2 < (l1.length : Int) then ((marqueeref10_whole.f (rd l1 2)).bind fun t196 => (if t196 = true then (some (4, 0)) else (some (0, 100)))) else (none)) = some (r1, r2) := by rw [if_pos rfl] at H; exact H
                                                clear H
                                                have H := H1
                                                clear H1
                                                by_cases c69 : 2 < (l1.length : Int)
                                                · rw [if_pos c69] at H
                                                  have c69b0 : decide (2 < (l1.length : Int)) = true := decide_eq_true c69
                                                  have c69b1 : decide (2 < l1.length) = true := decide_eq_true (by omega)
                                                  clear c69
                                                  replace H := Option.bind_eq_some_iff.mp H
                                                  obtain ⟨t196, A700, H⟩ := H
                                                  replace H : (if t196 = true then (some (4, 0)) else (some (0, 100))) = some (r1, r2) := H
                                                  have A70 := Aside0.mk A700
                                                  clear A700
                                                  by_cases c71 : t196 = true
                                                  · subst c71
                                                    have H1 : (some (4, 0)) = some (r1, r2) := by rw [if_pos rfl] at H; exact H
                                                    clear H
                                                    have H := H1
                                                    clear H1
                                                    simp only [Option.some.injEq, Prod.mk.injEq] at H
                                                    obtain ⟨rfl, rfl⟩ := H
                                                    have p191 : 0 ≤ (0 : Int) := (by omega)
                                                    have q191 : 0 < (l1.length : Int) := of_decide_eq_true (by first | (with_reducible assumption) | assumption)
                                                    obtain ⟨ad191, e191, hx191_0⟩ := Kd.at_int HR1.out 0 p191 q191
                                                    cases e191
                                                    have qi191 : (0 < l1.length) = True := eq_true (by omega)
                                                    (try rw [show ((0 : Int)).toNat = 0 from rfl] at hx191_0)
                                                    (try rw [Addr.add_zero'] at hx191_0)
                                                    replace p191 := eq_true p191
                                                    replace q191 := eq_true q191
                                                    go_wp2_with (first | (go_at_call 26; (with_reducible refine (marqueeref10_text.calls (rd l1 0) true _ A64.out).mono ?_); rintro e w' ⟨rfl, ⟨nd, rfl⟩⟩; (try first | exact ⟨rfl, _, World.drewN_drewN _ _ _⟩ | exact ⟨rfl, _, Eq.trans (World.drewN_drewN _ _ _) (congrArg (World.drewN _) (Nat.add_assoc _ _ _))⟩); have p193 : 0 ≤ (1 : Int) := (by omega); have q193 : 1 < (l1.length : Int) := of_decide_eq_true (by first | (with_reducible assumption) | assumption); obtain ⟨ad193, e193, hx193_0⟩ := Kd.at_int HR1.out 1 p193 q193; obtain rfl : ad191 = ad193 := (by injection e193); (try simp only [show (1 : Int).toNat = 1 from rfl, Nat.reduceMul, Nat.reduceEqDiff, Go.Addr.add, ↓reduceIte] at hx193_0); have qi193 : (1 < l1.length) = True := eq_true (by omega); (try rw [show ((1 : Int)).toNat = 1 from rfl] at hx193_0); replace p193 := eq_true p193; replace q193 := eq_true q193) | (go_at_call 27; (with_reducible refine (marqueeref10_whole.calls (rd l1 1) true _ A67.out).mono ?_); rintro e w' ⟨rfl, ⟨nd, rfl⟩⟩; (try first | exact ⟨rfl, _, World.drewN_drewN _ _ _⟩ | exact ⟨rfl, _, Eq.trans (World.drewN_drewN _ _ _) (congrArg (World.drewN _) (Nat.add_assoc _ _ _))⟩); have p195 : 0 ≤ (2 : Int) := (by omega); have q195 : 2 < (l1.length : Int) := of_decide_eq_true (by first | (with_reducible assumption) | assumption); obtain ⟨ad195, e195, hx195_0⟩ := Kd.at_int HR1.out 2 p195 q195; obtain rfl : ad191 = ad195 := (by injection e195); (try simp only [show (2 : Int).toNat = 2 from rfl, Nat.reduceMul, Nat.reduceEqDiff, Go.Addr.add, ↓reduceIte] at hx195_0); have qi195 : (2 < l1.length) = True := eq_true (by omega); (try rw [show ((2 : Int)).toNat = 2 from rfl] at hx195_0); replace p195 := eq_true p195; replace q195 := eq_true q195) | (go_at_call 27; (with_reducible refine (marqueeref10_whole.calls (rd l1 2) true _ A70.out).mono ?_); rintro e w' ⟨rfl, ⟨nd, rfl⟩⟩; (try first | exact ⟨rfl, _, World.drewN_drewN _ _ _⟩ | exact ⟨rfl, _, Eq.trans (World.drewN_drewN _ _ _) (congrArg (World.drewN _) (Nat.add_assoc _ _ _))⟩)))
                                                    repeat (go_quiet (first | (go_at_call 26; (with_reducible refine (marqueeref10_text.calls (rd l1 0) true _ A64.out).mono ?_); rintro e w' ⟨rfl, ⟨nd, rfl⟩⟩; (try first | exact ⟨rfl, _, World.drewN_drewN _ _ _⟩ | exact ⟨rfl, _, Eq.trans (World.drewN_drewN _ _ _) (congrArg (World.drewN _) (Nat.add_assoc _ _ _))⟩); have p193 : 0 ≤ (1 : Int) := (by omega); have q193 : 1 < (l1.length : Int) := of_decide_eq_true (by first | (with_reducible assumption) | assumption); obtain ⟨ad193, e193, hx193_0⟩ := Kd.at_int HR1.out 1 p193 q193; obtain rfl : ad191 = ad193 := (by injection e193); (try simp only [show (1 : Int).toNat = 1 from rfl, Nat.reduceMul, Nat.reduceEqDiff, Go.Addr.add, ↓reduceIte] at hx193_0); have qi193 : (1 < l1.length) = True := eq_true (by omega); (try rw [show ((1 : Int)).toNat = 1 from rfl] at hx193_0); replace p193 := eq_true p193; replace q193 := eq_true q193) | (go_at_call 27; (with_reducible refine (marqueeref10_whole.calls (rd l1 1) true _ A67.out).mono ?_); rintro e w' ⟨rfl, ⟨nd, rfl⟩⟩; (try first | exact ⟨rfl, _, World.drewN_drewN _ _ _⟩ | exact ⟨rfl, _, Eq.trans (World.drewN_drewN _ _ _) (congrArg (World.drewN _) (Nat.add_assoc _ _ _))⟩); have p195 : 0 ≤ (2 : Int) := (by omega); have q195 : 2 < (l1.length : Int) := of_decide_eq_true (by first | (with_reducible assumption) | assumption); obtain ⟨ad195, e195, hx195_0⟩ := Kd.at_int HR1.out 2 p195 q195; obtain rfl : ad191 = ad195 := (by injection e195); (try simp only [show (2 : Int).toNat = 2 from rfl, Nat.reduceMul, Nat.reduceEqDiff, Go.Addr.add, ↓reduceIte] at hx195_0); have qi195 : (2 < l1.length) = True := eq_true (by omega); (try rw [show ((2 : Int)).toNat = 2 from rfl] at hx195_0); replace p195 := eq_true p195; replace q195 := eq_true q195) | (go_at_call 27; (with_reducible refine (marqueeref10_whole.calls (rd l1 2) true _ A70.out).mono ?_); rintro e w' ⟨rfl, ⟨nd, rfl⟩⟩; (try first | exact ⟨rfl, _, World.drewN_drewN _ _ _⟩ | exact ⟨rfl, _, Eq.trans (World.drewN_drewN _ _ _) (congrArg (World.drewN _) (Nat.add_assoc _ _ _))⟩))); try go_wp2_with (first | (go_at_call 26; (with_reducible refine (marqueeref10_text.calls (rd l1 0) true _ A64.out).mono ?_); rintro e w' ⟨rfl, ⟨nd, rfl⟩⟩; (try first | exact ⟨rfl, _, World.drewN_drewN _ _ _⟩ | exact ⟨rfl, _, Eq.trans (World.drewN_drewN _ _ _) (congrArg (World.drewN _) (Nat.add_assoc _ _ _))⟩); have p193 : 0 ≤ (1 : Int) := (by omega); have q193 : 1 < (l1.length : Int) := of_decide_eq_true (by first | (with_reducible assumption) | assumption); obtain ⟨ad193, e193, hx193_0⟩ := Kd.at_int HR1.out 1 p193 q193; obtain rfl : ad191 = ad193 := (by injection e193); (try simp only [show (1 : Int).toNat = 1 from rfl, Nat.reduceMul, Nat.reduceEqDiff, Go.Addr.add, ↓reduceIte] at hx193_0); have qi193 : (1 < l1.length) = True := eq_true (by omega); (try rw [show ((1 : Int)).toNat = 1 from rfl] at hx193_0); replace p193 := eq_true p193; replace q193 := eq_true q193) | (go_at_call 27; (with_reducible refine (marqueeref10_whole.calls (rd l1 1) true _ A67.out).mono ?_); rintro e w' ⟨rfl, ⟨nd, rfl⟩⟩; (try first | exact ⟨rfl, _, World.drewN_drewN _ _ _⟩ | exact ⟨rfl, _, Eq.trans (World.drewN_drewN _ _ _) (congrArg (World.drewN _) (Nat.add_assoc _ _ _))⟩); have p195 : 0 ≤ (2 : Int) := (by omega); have q195 : 2 < (l1.length : Int) := of_decide_eq_true (by first | (with_reducible assumption) | assumption); obtain ⟨ad195, e195, hx195_0⟩ := Kd.at_int HR1.out 2 p195 q195; obtain rfl : ad191 = ad195 := (by injection e195); (try simp only [show (2 : Int).toNat = 2 from rfl, Nat.reduceMul, Nat.reduceEqDiff, Go.Addr.add, ↓reduceIte] at hx195_0); have qi195 : (2 < l1.length) = True := eq_true (by omega); (try rw [show ((2 : Int)).toNat = 2 from rfl] at hx195_0); replace p195 := eq_true p195; replace q195 := eq_true q195) | (go_at_call 27; (with_reducible refine (marqueeref10_whole.calls (rd l1 2) true _ A70.out).mono ?_); rintro e w' ⟨rfl, ⟨nd, rfl⟩⟩; (try first | exact ⟨rfl, _, World.drewN_drewN _ _ _⟩ | exact ⟨rfl, _, Eq.trans (World.drewN_drewN _ _ _) (congrArg (World.drewN _) (Nat.add_assoc _ _ _))⟩))))
                                                    go_ret2
                                                    exact ⟨by first | rfl | (simp; done) | (simp [*]; done), by repeat (first | exact Drawn0.refl _ | apply Drawn0.step)⟩
                                                  · replace c71 := Bool.eq_false_iff.mpr c71
                                                    subst c71
                                                    have H1 : (some (0, 100)) = some (r1, r2) := by rw [if_neg (show ¬ (false = true) by decide)] at H; exact H
                                                    clear H
                                                    have H := H1
                                                    clear H1
                                                    simp only [Option.some.injEq, Prod.mk.injEq] at H
                                                    obtain ⟨rfl, rfl⟩ := H
                                                    have p191 : 0 ≤ (0 : Int) := (by omega)
                                                    have q191 : 0 < (l1.length : Int) := of_decide_eq_true (by first | (with_reducible assumption) | assumption)
                                                    obtain ⟨ad191, e191, hx191_0⟩ := Kd.at_int HR1.out 0 p191 q191
                                                    cases e191
                                                    have qi191 : (0 < l1.length) = True := eq_true (by omega)
                                                    (try rw [show ((0 : Int)).toNat = 0 from rfl] at hx191_0)
                                                    (try rw [Addr.add_zero'] at hx191_0)
                                                    replace p191 := eq_true p191
                                                    replace q191 := eq_true q191
                                                    go_wp2_with (first | (go_at_call 26; (with_reducible refine (marqueeref10_text.calls (rd l1 0) true _ A64.out).mono ?_); rintro e w' ⟨rfl, ⟨nd, rfl⟩⟩; (try first | exact ⟨rfl, _, World.drewN_drewN _ _ _⟩ | exact ⟨rfl, _, Eq.trans (World.drewN_drewN _ _ _) (congrArg (World.drewN _) (Nat.add_assoc _ _ _))⟩); have p193 : 0 ≤ (1 : Int) := (by omega); have q193 : 1 < (l1.length : Int) := of_decide_eq_true (by first | (with_reducible assumption) | assumption); obtain ⟨ad193, e193, hx193_0⟩ := Kd.at_int HR1.out 1 p193 q193; obtain rfl : ad191 = ad193 := (by injection e193); (try simp only [show (1 : Int).toNat = 1 from rfl, Nat.reduceMul, Nat.reduceEqDiff, Go.Addr.add, ↓reduceIte] at hx193_0); have qi193 : (1 < l1.length) = True := eq_true (by omega); (try rw [show ((1 : Int)).toNat = 1 from rfl] at hx193_0); replace p193 := eq_true p193; replace q193 := eq_true q193) | (go_at_call 27; (with_reducible refine (marqueeref10_whole.calls (rd l1 1) true _ A67.out).mono ?_); rintro e w' ⟨rfl, ⟨nd, rfl⟩⟩; (try first | exact ⟨rfl, _, World.drewN_drewN _ _ _⟩ | exact ⟨rfl, _, Eq.trans (World.drewN_drewN _ _ _) (congrArg (World.drewN _) (Nat.add_assoc _ _ _))⟩); have p195 : 0 ≤ (2 : Int) := (by omega); have q195 : 2 < (l1.length : Int) := of_decide_eq_true (by first | (with_reducible assumption) | assumption); obtain ⟨ad195, e195, hx195_0⟩ := Kd.at_int HR1.out 2 p195 q195; obtain rfl : ad191 = ad195 := (by injection e195); (try simp only [show (2 : Int).toNat = 2 from rfl, Nat.reduceMul, Nat.reduceEqDiff, Go.Addr.add, ↓reduceIte] at hx195_0); have qi195 : (2 < l1.length) = True := eq_true (by omega); (try rw [show ((2 : Int)).toNat = 2 from rfl] at hx195_0); replace p195 := eq_true p195; replace q195 := eq_true q195) | (go_at_call 27; (with_reducible refine (marqueeref10_whole.calls (rd l1 2) false _ A70.out).mono ?_); rintro e w' ⟨rfl, ⟨nd, rfl⟩⟩; (try first | exact ⟨rfl, _, World.drewN_drewN _ _ _⟩ | exact ⟨rfl, _, Eq.trans (World.drewN_drewN _ _ _) (congrArg (World.drewN _) (Nat.add_assoc _ _ _))⟩)))
                                                    repeat (go_quiet (first | (go_at_call 26; (with_reducible refine (marqueeref10_text.calls (rd l1 0) true _ A64.out).mono ?_); rintro e w' ⟨rfl, ⟨nd, rfl⟩⟩; (try first | exact ⟨rfl, _, World.drewN_drewN _ _ _⟩ | exact ⟨rfl, _, Eq.trans (World.drewN_drewN _ _ _) (congrArg (World.drewN _) (Nat.add_assoc _ _ _))⟩); have p193 : 0 ≤ (1 : Int) := (by omega); have q193 : 1 < (l1.length : Int) := of_decide_eq_true (by first | (with_reducible assumption) | assumption); obtain ⟨ad193, e193, hx193_0⟩ := Kd.at_int HR1.out 1 p193 q193; obtain rfl : ad191 = ad193 := (by injection e193); (try simp only [show (1 : Int).toNat = 1 from rfl, Nat.reduceMul, Nat.reduceEqDiff, Go.Addr.add, ↓reduceIte] at hx193_0); have qi193 : (1 < l1.length) = True := eq_true (by omega); (try rw [show ((1 : Int)).toNat = 1 from rfl] at hx193_0); replace p193 := eq_true p193; replace q193 := eq_true q193) | (go_at_call 27; (with_reducible refine (marqueeref10_whole.calls (rd l1 1) true _ A67.out).mono ?_); rintro e w' ⟨rfl, ⟨nd, rfl⟩⟩; (try first | exact ⟨rfl, _, World.drewN_drewN _ _ _⟩ | exact ⟨rfl, _, Eq.trans (World.drewN_drewN _ _ _) (congrArg (World.drewN _) (Nat.add_assoc _ _ _))⟩); have p195 : 0 ≤ (2 : Int) := (by omega); have q195 : 2 < (l1.length : Int) := of_decide_eq_true (by first | (with_reducible assumption) | assumption); obtain ⟨ad195, e195, hx195_0⟩ := Kd.at_int HR1.out 2 p195 q195; obtain rfl : ad191 = ad195 := (by injection e195); (try simp only [show (2 : Int).toNat = 2 from rfl, Nat.reduceMul, Nat.reduceEqDiff, Go.Addr.add, ↓reduceIte] at hx195_0); have qi195 : (2 < l1.length) = True := eq_true (by omega); (try rw [show ((2 : Int)).toNat = 2 from rfl] at hx195_0); replace p195 := eq_true p195; replace q195 := eq_true q195) | (go_at_call 27; (with_reducible refine (marqueeref10_whole.calls (rd l1 2) false _ A70.out).mono ?_); rintro e w' ⟨rfl, ⟨nd, rfl⟩⟩; (try first | exact ⟨rfl, _, World.drewN_drewN _ _ _⟩ | exact ⟨rfl, _, Eq.trans (World.drewN_drewN _ _ _) (congrArg (World.drewN _) (Nat.add_assoc _ _ _))⟩))); try go_wp2_with (first | (go_at_call 26; (with_reducible refine (marqueeref10_text.calls (rd l1 0) true _ A64.out).mono ?_); rintro e w' ⟨rfl, ⟨nd, rfl⟩⟩; (try first | exact ⟨rfl, _, World.drewN_drewN _ _ _⟩ | exact ⟨rfl, _, Eq.trans (World.drewN_drewN _ _ _) (congrArg (World.drewN _) (Nat.add_assoc _ _ _))⟩); have p193 : 0 ≤ (1 : Int) := (by omega); have q193 : 1 < (l1.length : Int) := of_decide_eq_true (by first | (with_reducible assumption) | assumption); obtain ⟨ad193, e193, hx193_0⟩ := Kd.at_int HR1.out 1 p193 q193; obtain rfl : ad191 = ad193 := (by injection e193); (try simp only [show (1 : Int).toNat = 1 from rfl, Nat.reduceMul, Nat.reduceEqDiff, Go.Addr.add, ↓reduceIte] at hx193_0); have qi193 : (1 < l1.length) = True := eq_true (by omega); (try rw [show ((1 : Int)).toNat = 1 from rfl] at hx193_0); replace p193 := eq_true p193; replace q193 := eq_true q193) | (go_at_call 27; (with_reducible refine (marqueeref10_whole.calls (rd l1 1) true _ A67.out).mono ?_); rintro e w' ⟨rfl, ⟨nd, rfl⟩⟩; (try first | exact ⟨rfl, _, World.drewN_drewN _ _ _⟩ | exact ⟨rfl, _, Eq.trans (World.drewN_drewN _ _ _) (congrArg (World.drewN _) (Nat.add_assoc _ _ _))⟩); have p195 : 0 ≤ (2 : Int) := (by omega); have q195 : 2 < (l1.length : Int) := of_decide_eq_true (by first | (with_reducible assumption) | assumption); obtain ⟨ad195, e195, hx195_0⟩ := Kd.at_int HR1.out 2 p195 q195; obtain rfl : ad191 = ad195 := (by injection e195); (try simp only [show (2 : Int).toNat = 2 from rfl, Nat.reduceMul, Nat.reduceEqDiff, Go.Addr.add, ↓reduceIte] at hx195_0); have qi195 : (2 < l1.length) = True := eq_true (by omega); (try rw [show ((2 : Int)).toNat = 2 from rfl] at hx195_0); replace p195 := eq_true p195; replace q195 := eq_true q195) | (go_at_call 27; (with_reducible refine (marqueeref10_whole.calls (rd l1 2) false _ A70.out).mono ?_); rintro e w' ⟨rfl, ⟨nd, rfl⟩⟩; (try first | exact ⟨rfl, _, World.drewN_drewN _ _ _⟩ | exact ⟨rfl, _, Eq.trans (World.drewN_drewN _ _ _) (congrArg (World.drewN _) (Nat.add_assoc _ _ _))⟩))))
                                                    go_ret2
                                                    exact ⟨by first | rfl | (simp; done) | (simp [*]; done), by repeat (first | exact Drawn0.refl _ | apply Drawn0.step)⟩
                                                · rw [if_neg c69] at H
                                                  exact absurd H (by simp)
                                              · replace c68 := Bool.eq_false_iff.mpr c68
                                                subst c68
                                                have H1 : (some (0, 100)) = some (r1, r2) := by rw [if_neg (show ¬ (false = true) by decide)] at H; exact H
                                                clear H
                                                have H := H1
                                                clear H1
                                                simp only [Option.some.injEq, Prod.mk.injEq] at H
                                                obtain ⟨rfl, rfl⟩ := H
                                                have p191 : 0 ≤ (0 : Int) := (by omega)
                                                have q191 : 0 < (l1.length : Int) := of_decide_eq_true (by first | (with_reducible assumption) | assumption)
                                                obtain ⟨ad191, e191, hx191_0⟩ := Kd.at_int HR1.out 0 p191 q191
                                                cases e191
                                                have qi191 : (0 < l1.length) = True := eq_true (by omega)
                                                (try rw [show ((0 : Int)).toNat = 0 from rfl] at hx191_0)
                                                (try rw [Addr.add_zero'] at hx191_0)
                                                replace p191 := eq_true p191
                                                replace q191 := eq_true q191
                                                go_wp2_with (first | (go_at_call 26; (with_reducible refine (marqueeref10_text.calls (rd l1 0) true _ A64.out).mono ?_); rintro e w' ⟨rfl, ⟨nd, rfl⟩⟩; (try first | exact ⟨rfl, _, World.drewN_drewN _ _ _⟩ | exact ⟨rfl, _, Eq.trans (World.drewN_drewN _ _ _) (congrArg (World.drewN _) (Nat.add_assoc _ _ _))⟩); have p193 : 0 ≤ (1 : Int) := (by omega); have q193 : 1 < (l1.length : Int) := of_decide_eq_true (by first | (with_reducible assumption) | assumption); obtain ⟨ad193, e193, hx193_0⟩ := Kd.at_int HR1.out 1 p193 q193; obtain rfl : ad191 = ad193 := (by injection e193); (try simp only [show (1 : Int).toNat = 1 from rfl, Nat.reduceMul, Nat.reduceEqDiff, Go.Addr.add, ↓reduceIte] at hx193_0); have qi193 : (1 < l1.length) = True := eq_true (by omega); (try rw [show ((1 : Int)).toNat = 1 from rfl] at hx193_0); replace p193 := eq_true p193; replace q193 := eq_true q193) | (go_at_call 27; (with_reducible refine (marqueeref10_whole.calls (rd l1 1) false _ A67.out).mono ?_); rintro e w' ⟨rfl, ⟨nd, rfl⟩⟩; (try first | exact ⟨rfl, _, World.drewN_drewN _ _ _⟩ | exact ⟨rfl, _, Eq.trans (World.drewN_drewN _ _ _) (congrArg (World.drewN _) (Nat.add_assoc _ _ _))⟩)))
                                                repeat (go_quiet (first | (go_at_call 26; (with_reducible refine (marqueeref10_text.calls (rd l1 0) true _ A64.out).mono ?_); rintro e w' ⟨rfl, ⟨nd, rfl⟩⟩; (try first | exact ⟨rfl, _, World.drewN_drewN _ _ _⟩ | exact ⟨rfl, _, Eq.trans (World.drewN_drewN _ _ _) (congrArg (World.drewN _) (Nat.add_assoc _ _ _))⟩); have p193 : 0 ≤ (1 : Int) := (by omega); have q193 : 1 < (l1.length : Int) := of_decide_eq_true (by first | (with_reducible assumption) | assumption); obtain ⟨ad193, e193, hx193_0⟩ := Kd.at_int HR1.out 1 p193 q193; obtain rfl : ad191 = ad193 := (by injection e193); (try simp only [show (1 : Int).toNat = 1 from rfl, Nat.reduceMul, Nat.reduceEqDiff, Go.Addr.add, ↓reduceIte] at hx193_0); have qi193 : (1 < l1.length) = True := eq_true (by omega); (try rw [show ((1 : Int)).toNat = 1 from rfl] at hx193_0); replace p193 := eq_true p193; replace q193 := eq_true q193) | (go_at_call 27; (with_reducible refine (marqueeref10_whole.calls (rd l1 1) false _ A67.out).mono ?_); rintro e w' ⟨rfl, ⟨nd, rfl⟩⟩; (try first | exact ⟨rfl, _, World.drewN_drewN _ _ _⟩ | exact ⟨rfl, _, Eq.trans (World.drewN_drewN _ _ _) (congrArg (World.drewN _) (Nat.add_assoc _ _ _))⟩))); try go_wp2_with (first | (go_at_call 26; (with_reducible refine (marqueeref10_text.calls (rd l1 0) true _ A64.out).mono ?_); rintro e w' ⟨rfl, ⟨nd, rfl⟩⟩; (try first | exact ⟨rfl, _, World.drewN_drewN _ _ _⟩ | exact ⟨rfl, _, Eq.trans (World.drewN_drewN _ _ _) (congrArg (World.drewN _) (Nat.add_assoc _ _ _))⟩); have p193 : 0 ≤ (1 : Int) := (by omega); have q193 : 1 < (l1.length : Int) := of_decide_eq_true (by first | (with_reducible assumption) | assumption); obtain ⟨ad193, e193, hx193_0⟩ := Kd.at_int HR1.out 1 p193 q193; obtain rfl : ad191 = ad193 := (by injection e193); (try simp only [show (1 : Int).toNat = 1 from rfl, Nat.reduceMul, Nat.reduceEqDiff, Go.Addr.add, ↓reduceIte] at hx193_0); have qi193 : (1 < l1.length) = True := eq_true (by omega); (try rw [show ((1 : Int)).toNat = 1 from rfl] at hx193_0); replace p193 := eq_true p193; replace q193 := eq_true q193) | (go_at_call 27; (with_reducible refine (marqueeref10_whole.calls (rd l1 1) false _ A67.out).mono ?_); rintro e w' ⟨rfl, ⟨nd, rfl⟩⟩; (try first | exact ⟨rfl, _, World.drewN_drewN _ _ _⟩ | exact ⟨rfl, _, Eq.trans (World.drewN_drewN _ _ _) (congrArg (World.drewN _) (Nat.add_assoc _ _ _))⟩))))
                                                go_ret2
                                                exact ⟨by first | rfl | (simp; done) | (simp [*]; done), by repeat (first | exact Drawn0.refl _ | apply Drawn0.step)⟩
                                            · rw [if_neg c66] at H
                                              exact absurd H (by simp)
                                          · replace c65 := Bool.eq_false_iff.mpr c65
                                            subst c65
                                            have H1 : (some (0, 100)) = some (r1, r2) := by rw [if_neg (show ¬ (false = true) by decide)] at H; exact H
                                            clear H
                                            have H := H1
                                            clear H1
                                            simp only [Option.some.injEq, Prod.mk.injEq] at H
                                            obtain ⟨rfl, rfl⟩ := H
                                            have p191 : 0 ≤ (0 : Int) := (by omega)
                                            have q191 : 0 < (l1.length : Int) := of_decide_eq_true (by first | (with_reducible assumption) | assumption)
                                            obtain ⟨ad191, e191, hx191_0⟩ := Kd.at_int HR1.out 0 p191 q191
                                            cases e191
                                            have qi191 : (0 < l1.length) = True := eq_true (by omega)
                                            (try rw [show ((0 : Int)).toNat = 0 from rfl] at hx191_0)
                                            (try rw [Addr.add_zero'] at hx191_0)
                                            replace p191 := eq_true p191
                                            replace q191 := eq_true q191
                                            go_wp2_with (first | (go_at_call 26; (with_reducible refine (marqueeref10_text.calls (rd l1 0) false _ A64.out).mono ?_); rintro e w' ⟨rfl, ⟨nd, rfl⟩⟩; (try first | exact ⟨rfl, _, World.drewN_drewN _ _ _⟩ | exact ⟨rfl, _, Eq.trans (World.drewN_drewN _ _ _) (congrArg (World.drewN _) (Nat.add_assoc _ _ _))⟩)))
                                            repeat (go_quiet (first | (go_at_call 26; (with_reducible refine (marqueeref10_text.calls (rd l1 0) false _ A64.out).mono ?_); rintro e w' ⟨rfl, ⟨nd, rfl⟩⟩; (try first | exact ⟨rfl, _, World.drewN_drewN _ _ _⟩ | exact ⟨rfl, _, Eq.trans (World.drewN_drewN _ _ _) (congrArg (World.drewN _) (Nat.add_assoc _ _ _))⟩))); try go_wp2_with (first | (go_at_call 26; (with_reducible refine (marqueeref10_text.calls (rd l1 0) false _ A64.out).mono ?_); rintro e w' ⟨rfl, ⟨nd, rfl⟩⟩; (try first | exact ⟨rfl, _, World.drewN_drewN _ _ _⟩ | exact ⟨rfl, _, Eq.trans (World.drewN_drewN _ _ _) (congrArg (World.drewN _) (Nat.add_assoc _ _ _))⟩))))
                                            go_ret2
                                            exact ⟨by first | rfl | (simp; done) | (simp [*]; done), by repeat (first | exact Drawn0.refl _ | apply Drawn0.step)⟩
                                        · rw [if_neg c63] at H
                                          exact absurd H (by simp)
                                      · rw [if_neg c62] at H
                                        have c62b0 : ((l1.length : Int) == 3) = false := beq_eq_false_iff_ne.mpr c62
                                        have c62b1 : ((l1.length : Int) != 3) = true := bne_iff_ne.mpr c62
                                        simp only [Option.some.injEq, Prod.mk.injEq] at H
                                        obtain ⟨rfl, rfl⟩ := H
                                        go_wp2
                                        repeat (go_quiet (fail); try go_wp2)
                                        go_ret2
                                        exact ⟨by first | rfl | (simp; done) | (simp [*]; done), by repeat (first | exact Drawn0.refl _ | apply Drawn0.step)⟩
                                    · rw [if_neg c61] at H
                                      have c61b0 : (a0.toList == ([115, 117, 98, 115, 116, 114] : List UInt8)) = false := beq_eq_false_iff_ne.mpr c61
                                      have c61b1 : (a0.toList != ([115, 117, 98, 115, 116, 114] : List UInt8)) = true := bne_iff_ne.mpr c61
                                      by_cases c72 : a0.toList = ([116, 111, 116, 101, 120, 116] : List UInt8)
                                      · rw [if_pos c72] at H
                                        have c72b0 : (a0.toList == ([116, 111, 116, 101, 120, 116] : List UInt8)) = true := beq_iff_eq.mpr c72
                                        have c72b1 : (a0.toList != ([116, 111, 116, 101, 120, 116] : List UInt8)) = false := bne_eq_false_iff_eq.mpr c72
                                        clear c72
                                        by_cases c73 : (l1.length : Int) = 1
                                        · rw [if_pos c73] at H
                                          have c73b0 : ((l1.length : Int) == 1) = true := beq_iff_eq.mpr c73
                                          have c73b1 : ((l1.length : Int) != 1) = false := bne_eq_false_iff_eq.mpr c73
                                          clear c73
                                          simp only [Option.some.injEq, Prod.mk.injEq] at H
                                          obtain ⟨rfl, rfl⟩ := H
                                          go_wp2
                                          repeat (go_quiet (fail); try go_wp2)
                                          go_ret2
                                          exact ⟨by first | rfl | (simp; done) | (simp [*]; done), by repeat (first | exact Drawn0.refl _ | apply Drawn0.step)⟩
                                        · rw [if_neg c73] at H
                                          have c73b0 : ((l1.length : Int) == 1) = false := beq_eq_false_iff_ne.mpr c73
                                          have c73b1 : ((l1.length : Int) != 1) = true := bne_iff_ne.mpr c73
                                          simp only [Option.some.injEq, Prod.mk.injEq] at H
                                          obtain ⟨rfl, rfl⟩ := H
                                          go_wp2
                                          repeat (go_quiet (fail); try go_wp2)
                                          go_ret2
                                          exact ⟨by first | rfl | (simp; done) | (simp [*]; done), by repeat (first | exact Drawn0.refl _ | apply Drawn0.step)⟩
                                      · rw [if_neg c72] at H
                                        have c72b0 : (a0.toList == ([116, 111, 116, 101, 120, 116] : List UInt8)) = false := beq_eq_false_iff_ne.mpr c72
                                        have c72b1 : (a0.toList != ([116, 111, 116, 101, 120, 116] : List UInt8)) = true := bne_iff_ne.mpr c72
                                        by_cases c74 : false = true
                                        · cases c74
                                        · have H1 : (some (0, 100)) = some (r1, r2) := by rw [if_neg (show ¬ (false = true) by decide)] at H; exact H
                                          clear H
                                          have H := H1
                                          clear H1
                                          simp only [Option.some.injEq, Prod.mk.injEq] at H
                                          obtain ⟨rfl, rfl⟩ := H
                                          go_wp2
                                          repeat (go_quiet (fail); try go_wp2)
                                          go_ret2
                                          exact ⟨by first | rfl | (simp; done) | (simp [*]; done), by repeat (first | exact Drawn0.refl _ | apply Drawn0.step)⟩
end Go.Proofs.YtchbodpkaiengaaGreatDoor.PFuncsKinds
