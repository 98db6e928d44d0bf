/- A part of the proof of this claim. No condition beyond those that each theorem names. -/
import Derived.Test.YtchbodpkaiengaaGreatDoorZPFuncsKindsx0
import Derived.Test.YtchbodpkaiengaaGreatDoorZPFuncsKindsx1
namespace Go.Proofs.YtchbodpkaiengaaGreatDoor.PFuncsKinds
open Go.RowKit Go.Proofs.YtchbodpkaiengaaGreatDoorW.PrintWords Go.Proofs.YtchbodpkaiengaaGreatDoorW.PrintLast Go.Proofs.YtchbodpkaiengaaGreatDoorW.PrintMore
attribute [local go_sem] max2_int min2_int max_two min_two max_three min_three max_four min_four
set_option linter.unusedVariables false
set_option linter.unusedSimpArgs false
mutual
def funcs_Kind.l0 : Nat → ByteArray → List Int → List Int → Int → Int → Option (Int × Int)
  | 0, _, _, _, _, _ => none
  | k + 1, x0, x1, x15, x16, x17 => if x17 < x16 then (if 0 ≤ x17 then (if x17 < (x15.length : Int) then (if (rd x15 x17) < 0 then (some (0, 100)) else (if (rd x15 x17) > 4 then (some (0, 100)) else (funcs_Kind.l0 k x0 x1 x15 x16 (wrap64 (x17 + 1))))) else (none)) else (none)) else (if (x1.length : Int) = 1 then (if 0 < (x1.length : Int) then ((funcs_fits.f k (rd x1 0) (([2, 3] : List Int))).bind fun t128 => (funcs_Kind.j1 k x0 x1 (x1.length : Int) t128)) else (none)) else (funcs_Kind.j1 k x0 x1 (x1.length : Int) false))
def funcs_Kind.j1 : Nat → ByteArray → List Int → Int → Bool → Option (Int × Int)
  | 0, _, _, _, _ => none
  | k + 1, x0, x1, x8, x9 => if x8 = 1 then (if 0 < (x1.length : Int) then ((funcs_fits.f k (rd x1 0) (([4] : List Int))).bind fun t133 => (funcs_Kind.j2 k x0 x1 x8 x9 t133)) else (none)) else (funcs_Kind.j2 k x0 x1 x8 x9 false)
def funcs_Kind.j2 : Nat → ByteArray → List Int → Int → Bool → Bool → Option (Int × Int)
  | 0, _, _, _, _, _ => none
  | k + 1, x0, x1, x8, x9, x10 => if x0.toList = ([97, 98, 115] : List UInt8) then (if x9 = true then (if 0 < (x1.length : Int) then (some (rd x1 0, 0)) else (none)) else (some (0, 100))) else (if x0.toList = ([99, 101, 105, 108] : List UInt8) then (funcs_Kind.j3 k x1 x8 x9 x10 0 false x0 (x0.toList == ([99, 101, 105, 108] : List UInt8))) else (if x0.toList = ([102, 108, 111, 111, 114] : List UInt8) then (funcs_Kind.j3 k x1 x8 x9 x10 0 false x0 (x0.toList == ([102, 108, 111, 111, 114] : List UInt8))) else (if x0.toList = ([114, 111, 117, 110, 100] : List UInt8) then (funcs_Kind.j3 k x1 x8 x9 x10 0 false x0 (x0.toList == ([114, 111, 117, 110, 100] : List UInt8))) else (if x0.toList = ([115, 105, 103, 110] : List UInt8) then (funcs_Kind.j3 k x1 x8 x9 x10 0 false x0 (x0.toList == ([115, 105, 103, 110] : List UInt8))) else (funcs_Kind.j3 k x1 x8 x9 x10 0 false x0 (x0.toList == ([116, 111, 105, 110, 116] : List UInt8)))))))
def funcs_Kind.j3 : Nat → List Int → Int → Bool → Bool → Int → Bool → ByteArray → Bool → Option (Int × Int)
  | 0, _, _, _, _, _, _, _, _ => none
  | k + 1, x1, x8, x9, x10, x11, x12, x48, x55 => if x55 = true then (if x9 = true then (some (2, 0)) else (some (0, 100))) else (if x48.toList = ([116, 111, 100, 101, 99] : List UInt8) then (if x9 = true then (some (3, 0)) else (some (0, 100))) else (if x48.toList = ([99, 111, 97, 108, 101, 115, 99, 101] : List UInt8) then (funcs_Kind.j4 k x1 x8 x10 x11 x12 x48 (x48.toList == ([99, 111, 97, 108, 101, 115, 99, 101] : List UInt8))) else (if x48.toList = ([103, 114, 101, 97, 116, 101, 115, 116] : List UInt8) then (funcs_Kind.j4 k x1 x8 x10 x11 x12 x48 (x48.toList == ([103, 114, 101, 97, 116, 101, 115, 116] : List UInt8))) else (funcs_Kind.j4 k x1 x8 x10 x11 x12 x48 (x48.toList == ([108, 101, 97, 115, 116] : List UInt8))))))
def funcs_Kind.j4 : Nat → List Int → Int → Bool → Int → Bool → ByteArray → Bool → Option (Int × Int)
  | 0, _, _, _, _, _, _, _ => none
  | k + 1, x1, x8, x10, x11, x12, x48, x65 => if x65 = true then ((funcs_alike.f k x1).bind fun bt135 => (if bt135.2 = true then (if x8 ≥ 1 then (some (bt135.1, 0)) else (some (0, 100))) else (some (0, 100)))) else (if x48.toList = ([110, 117, 108, 108, 105, 102] : List UInt8) then (if x8 = 2 then ((funcs_alike.f k x1).bind fun bt137 => (if 0 < (x1.length : Int) then (if bt137.2 = true then (some (rd x1 0, 0)) else (some (0, 100))) else (none))) else (if x12 = true then (some (x11, 0)) else (some (0, 100)))) else (if x48.toList = ([99, 111, 110, 99, 97, 116] : List UInt8) then (funcs_Kind.l1 k 4 (decide (x8 ≥ 1)) x1 (x1.length : Int) 0) else (if x48.toList = ([108, 101, 110, 103, 116, 104] : List UInt8) then (if x10 = true then (some (2, 0)) else (some (0, 100))) else (if x48.toList = ([108, 111, 119, 101, 114] : List UInt8) then (funcs_Kind.j6 k x1 x8 x10 x11 x12 x48 (x48.toList == ([108, 111, 119, 101, 114] : List UInt8))) else (if x48.toList = ([117, 112, 112, 101, 114] : List UInt8) then (funcs_Kind.j6 k x1 x8 x10 x11 x12 x48 (x48.toList == ([117, 112, 112, 101, 114] : List UInt8))) else (funcs_Kind.j6 k x1 x8 x10 x11 x12 x48 (x48.toList == ([116, 114, 105, 109] : List UInt8))))))))
def funcs_Kind.l1 : Nat → Int → Bool → List Int → Int → Int → Option (Int × Int)
  | 0, _, _, _, _, _ => none
  | k + 1, x11, x12, x95, x96, x97 => if x97 < x96 then (if 0 ≤ x97 then (if x97 < (x95.length : Int) then (if x12 = true then ((funcs_fits.f k (rd x95 x97) (([4] : List Int))).bind fun t144 => (funcs_Kind.l1 k x11 t144 x95 x96 (wrap64 (x97 + 1)))) else (funcs_Kind.l1 k x11 false x95 x96 (wrap64 (x97 + 1)))) else (none)) else (none)) else (if x12 = true then (some (x11, 0)) else (some (0, 100)))
def funcs_Kind.j6 : Nat → List Int → Int → Bool → Int → Bool → ByteArray → Bool → Option (Int × Int)
  | 0, _, _, _, _, _, _, _ => none
  | k + 1, x1, x8, x10, x11, x12, x48, x111 => if x111 = true then (if x10 = true then (some (4, 0)) else (some (0, 100))) else (if x48.toList = ([116, 111, 116, 101, 120, 116] : List UInt8) then (if x8 = 1 then (some (4, 0)) else (some (0, 100))) else (if x48.toList = ([115, 117, 98, 115, 116, 114] : List UInt8) then (if x8 = 3 then (if 0 < (x1.length : Int) then ((funcs_fits.f k (rd x1 0) (([4] : List Int))).bind fun t149 => (if t149 = true then (if 1 < (x1.length : Int) then ((funcs_fits.f k (rd x1 1) (([2] : List Int))).bind fun t154 => (if t154 = true then (if 2 < (x1.length : Int) then ((funcs_fits.f k (rd x1 2) (([2] : List Int))).bind fun t159 => (if t159 = true then (some (4, 0)) else (some (0, 100)))) else (none)) else (some (0, 100)))) else (none)) else (some (0, 100)))) else (none)) else (some (0, 100))) else (if x12 = true then (some (x11, 0)) else (some (0, 100)))))
end
def funcs_Kind.f (k : Nat) (a0 : ByteArray) (l1 : List Int) : Option (Int × Int) := funcs_Kind.l0 k a0 l1 l1 (l1.length : Int) 0
theorem funcs_Kind.mono_l : ∀ k, (∀ y0 y1 y2 y3 y4, LeO (funcs_Kind.l0 k y0 y1 y2 y3 y4) (funcs_Kind.l0 (k + 1) y0 y1 y2 y3 y4)) ∧ (∀ y0 y1 y2 y3, LeO (funcs_Kind.j1 k y0 y1 y2 y3) (funcs_Kind.j1 (k + 1) y0 y1 y2 y3)) ∧ (∀ y0 y1 y2 y3 y4, LeO (funcs_Kind.j2 k y0 y1 y2 y3 y4) (funcs_Kind.j2 (k + 1) y0 y1 y2 y3 y4)) ∧ (∀ y0 y1 y2 y3 y4 y5 y6 y7, LeO (funcs_Kind.j3 k y0 y1 y2 y3 y4 y5 y6 y7) (funcs_Kind.j3 (k + 1) y0 y1 y2 y3 y4 y5 y6 y7)) ∧ (∀ y0 y1 y2 y3 y4 y5 y6, LeO (funcs_Kind.j4 k y0 y1 y2 y3 y4 y5 y6) (funcs_Kind.j4 (k + 1) y0 y1 y2 y3 y4 y5 y6)) ∧ (∀ y0 y1 y2 y3 y4, LeO (funcs_Kind.l1 k y0 y1 y2 y3 y4) (funcs_Kind.l1 (k + 1) y0 y1 y2 y3 y4)) ∧ (∀ y0 y1 y2 y3 y4 y5 y6, LeO (funcs_Kind.j6 k y0 y1 y2 y3 y4 y5 y6) (funcs_Kind.j6 (k + 1) y0 y1 y2 y3 y4 y5 y6))
  | 0 => ⟨fun _ _ _ _ _ r h => by simp [funcs_Kind.l0] at h, fun _ _ _ _ r h => by simp [funcs_Kind.j1] at h, fun _ _ _ _ _ r h => by simp [funcs_Kind.j2] at h, fun _ _ _ _ _ _ _ _ r h => by simp [funcs_Kind.j3] at h, fun _ _ _ _ _ _ _ r h => by simp [funcs_Kind.j4] at h, fun _ _ _ _ _ r h => by simp [funcs_Kind.l1] at h, fun _ _ _ _ _ _ _ r h => by simp [funcs_Kind.j6] at h⟩
  | k + 1 => by
    obtain ⟨ih0, ih1, ih2, ih3, ih4, ih5, ih6⟩ := funcs_Kind.mono_l k
    refine ⟨?_, ?_, ?_, ?_, ?_, ?_, ?_⟩
    · intro y0 y1 y2 y3 y4
      unfold funcs_Kind.l0
      repeat' first
      | (with_reducible exact ih0 _ _ _ _ _)
      | (with_reducible exact ih1 _ _ _ _)
      | (with_reducible exact ih2 _ _ _ _ _)
      | (with_reducible exact ih3 _ _ _ _ _ _ _ _)
      | (with_reducible exact ih4 _ _ _ _ _ _ _)
      | (with_reducible exact ih5 _ _ _ _ _)
      | (with_reducible exact ih6 _ _ _ _ _ _ _)
      | (with_reducible exact funcs_alike.mono _ _)
      | (with_reducible exact funcs_fits.mono _ _ _)
      | (with_reducible exact LeO.refl _)
      | (with_reducible exact LeO.none _)
      | (with_reducible refine LeO.ite ?_ ?_)
      | (with_reducible refine LeO.bind ?_ (fun _ => ?_))
      | exact ih0 _ _ _ _ _
      | exact ih1 _ _ _ _
      | exact ih2 _ _ _ _ _
      | exact ih3 _ _ _ _ _ _ _ _
      | exact ih4 _ _ _ _ _ _ _
      | exact ih5 _ _ _ _ _
      | exact ih6 _ _ _ _ _ _ _
      | exact funcs_alike.mono _ _
      | exact funcs_fits.mono _ _ _
      | exact LeO.none _
      | refine LeO.ite ?_ ?_
      | refine LeO.bind ?_ (fun _ => ?_)
    · intro y0 y1 y2 y3
      unfold funcs_Kind.j1
      repeat' first
      | (with_reducible exact ih0 _ _ _ _ _)
      | (with_reducible exact ih1 _ _ _ _)
      | (with_reducible exact ih2 _ _ _ _ _)
      | (with_reducible exact ih3 _ _ _ _ _ _ _ _)
      | (with_reducible exact ih4 _ _ _ _ _ _ _)
      | (with_reducible exact ih5 _ _ _ _ _)
      | (with_reducible exact ih6 _ _ _ _ _ _ _)
      | (with_reducible exact funcs_alike.mono _ _)
      | (with_reducible exact funcs_fits.mono _ _ _)
      | (with_reducible exact LeO.refl _)
      | (with_reducible exact LeO.none _)
      | (with_reducible refine LeO.ite ?_ ?_)
      | (with_reducible refine LeO.bind ?_ (fun _ => ?_))
      | exact ih0 _ _ _ _ _
      | exact ih1 _ _ _ _
      | exact ih2 _ _ _ _ _
      | exact ih3 _ _ _ _ _ _ _ _
      | exact ih4 _ _ _ _ _ _ _
      | exact ih5 _ _ _ _ _
      | exact ih6 _ _ _ _ _ _ _
      | exact funcs_alike.mono _ _
      | exact funcs_fits.mono _ _ _
      | exact LeO.none _
      | refine LeO.ite ?_ ?_
      | refine LeO.bind ?_ (fun _ => ?_)
    · intro y0 y1 y2 y3 y4
      unfold funcs_Kind.j2
      repeat' first
      | (with_reducible exact ih0 _ _ _ _ _)
      | (with_reducible exact ih1 _ _ _ _)
      | (with_reducible exact ih2 _ _ _ _ _)
      | (with_reducible exact ih3 _ _ _ _ _ _ _ _)
      | (with_reducible exact ih4 _ _ _ _ _ _ _)
      | (with_reducible exact ih5 _ _ _ _ _)
      | (with_reducible exact ih6 _ _ _ _ _ _ _)
      | (with_reducible exact funcs_alike.mono _ _)
      | (with_reducible exact funcs_fits.mono _ _ _)
      | (with_reducible exact LeO.refl _)
      | (with_reducible exact LeO.none _)
      | (with_reducible refine LeO.ite ?_ ?_)
      | (with_reducible refine LeO.bind ?_ (fun _ => ?_))
      | exact ih0 _ _ _ _ _
      | exact ih1 _ _ _ _
      | exact ih2 _ _ _ _ _
      | exact ih3 _ _ _ _ _ _ _ _
      | exact ih4 _ _ _ _ _ _ _
      | exact ih5 _ _ _ _ _
      | exact ih6 _ _ _ _ _ _ _
      | exact funcs_alike.mono _ _
      | exact funcs_fits.mono _ _ _
      | exact LeO.none _
      | refine LeO.ite ?_ ?_
      | refine LeO.bind ?_ (fun _ => ?_)
    · intro y0 y1 y2 y3 y4 y5 y6 y7
      unfold funcs_Kind.j3
      repeat' first
      | (with_reducible exact ih0 _ _ _ _ _)
      | (with_reducible exact ih1 _ _ _ _)
      | (with_reducible exact ih2 _ _ _ _ _)
      | (with_reducible exact ih3 _ _ _ _ _ _ _ _)
      | (with_reducible exact ih4 _ _ _ _ _ _ _)
      | (with_reducible exact ih5 _ _ _ _ _)
      | (with_reducible exact ih6 _ _ _ _ _ _ _)
      | (with_reducible exact funcs_alike.mono _ _)
      | (with_reducible exact funcs_fits.mono _ _ _)
      | (with_reducible exact LeO.refl _)
      | (with_reducible exact LeO.none _)
      | (with_reducible refine LeO.ite ?_ ?_)
      | (with_reducible refine LeO.bind ?_ (fun _ => ?_))
      | exact ih0 _ _ _ _ _
      | exact ih1 _ _ _ _
      | exact ih2 _ _ _ _ _
      | exact ih3 _ _ _ _ _ _ _ _
      | exact ih4 _ _ _ _ _ _ _
      | exact ih5 _ _ _ _ _
      | exact ih6 _ _ _ _ _ _ _
      | exact funcs_alike.mono _ _
      | exact funcs_fits.mono _ _ _
      | exact LeO.none _
      | refine LeO.ite ?_ ?_
      | refine LeO.bind ?_ (fun _ => ?_)
    · intro y0 y1 y2 y3 y4 y5 y6
      unfold funcs_Kind.j4
      repeat' first
      | (with_reducible exact ih0 _ _ _ _ _)
      | (with_reducible exact ih1 _ _ _ _)
      | (with_reducible exact ih2 _ _ _ _ _)
      | (with_reducible exact ih3 _ _ _ _ _ _ _ _)
      | (with_reducible exact ih4 _ _ _ _ _ _ _)
      | (with_reducible exact ih5 _ _ _ _ _)
      | (with_reducible exact ih6 _ _ _ _ _ _ _)
      | (with_reducible exact funcs_alike.mono _ _)
      | (with_reducible exact funcs_fits.mono _ _ _)
      | (with_reducible exact LeO.refl _)
      | (with_reducible exact LeO.none _)
      | (with_reducible refine LeO.ite ?_ ?_)
      | (with_reducible refine LeO.bind ?_ (fun _ => ?_))
      | exact ih0 _ _ _ _ _
      | exact ih1 _ _ _ _
      | exact ih2 _ _ _ _ _
      | exact ih3 _ _ _ _ _ _ _ _
      | exact ih4 _ _ _ _ _ _ _
      | exact ih5 _ _ _ _ _
      | exact ih6 _ _ _ _ _ _ _
      | exact funcs_alike.mono _ _
      | exact funcs_fits.mono _ _ _
      | exact LeO.none _
      | refine LeO.ite ?_ ?_
      | refine LeO.bind ?_ (fun _ => ?_)
    · intro y0 y1 y2 y3 y4
      unfold funcs_Kind.l1
      repeat' first
      | (with_reducible exact ih0 _ _ _ _ _)
      | (with_reducible exact ih1 _ _ _ _)
      | (with_reducible exact ih2 _ _ _ _ _)
      | (with_reducible exact ih3 _ _ _ _ _ _ _ _)
      | (with_reducible exact ih4 _ _ _ _ _ _ _)
      | (with_reducible exact ih5 _ _ _ _ _)
      | (with_reducible exact ih6 _ _ _ _ _ _ _)
      | (with_reducible exact funcs_alike.mono _ _)
      | (with_reducible exact funcs_fits.mono _ _ _)
      | (with_reducible exact LeO.refl _)
      | (with_reducible exact LeO.none _)
      | (with_reducible refine LeO.ite ?_ ?_)
      | (with_reducible refine LeO.bind ?_ (fun _ => ?_))
      | exact ih0 _ _ _ _ _
      | exact ih1 _ _ _ _
      | exact ih2 _ _ _ _ _
      | exact ih3 _ _ _ _ _ _ _ _
      | exact ih4 _ _ _ _ _ _ _
      | exact ih5 _ _ _ _ _
      | exact ih6 _ _ _ _ _ _ _
      | exact funcs_alike.mono _ _
      | exact funcs_fits.mono _ _ _
      | exact LeO.none _
      | refine LeO.ite ?_ ?_
      | refine LeO.bind ?_ (fun _ => ?_)
    · intro y0 y1 y2 y3 y4 y5 y6
      unfold funcs_Kind.j6
      repeat' first
      | (with_reducible exact ih0 _ _ _ _ _)
      | (with_reducible exact ih1 _ _ _ _)
      | (with_reducible exact ih2 _ _ _ _ _)
      | (with_reducible exact ih3 _ _ _ _ _ _ _ _)
      | (with_reducible exact ih4 _ _ _ _ _ _ _)
      | (with_reducible exact ih5 _ _ _ _ _)
      | (with_reducible exact ih6 _ _ _ _ _ _ _)
      | (with_reducible exact funcs_alike.mono _ _)
      | (with_reducible exact funcs_fits.mono _ _ _)
      | (with_reducible exact LeO.refl _)
      | (with_reducible exact LeO.none _)
      | (with_reducible refine LeO.ite ?_ ?_)
      | (with_reducible refine LeO.bind ?_ (fun _ => ?_))
      | exact ih0 _ _ _ _ _
      | exact ih1 _ _ _ _
      | exact ih2 _ _ _ _ _
      | exact ih3 _ _ _ _ _ _ _ _
      | exact ih4 _ _ _ _ _ _ _
      | exact ih5 _ _ _ _ _
      | exact ih6 _ _ _ _ _ _ _
      | exact funcs_alike.mono _ _
      | exact funcs_fits.mono _ _ _
      | exact LeO.none _
      | refine LeO.ite ?_ ?_
      | refine LeO.bind ?_ (fun _ => ?_)
theorem funcs_Kind.mono : ∀ a0 a1 k, LeO (funcs_Kind.f k a0 a1) (funcs_Kind.f (k + 1) a0 a1) := by
  intro a0 a1 k
  obtain ⟨ih0, ih1, ih2, ih3, ih4, ih5, ih6⟩ := funcs_Kind.mono_l k
  unfold funcs_Kind.f
  repeat' first
      | (with_reducible exact ih0 _ _ _ _ _)
      | (with_reducible exact ih1 _ _ _ _)
      | (with_reducible exact ih2 _ _ _ _ _)
      | (with_reducible exact ih3 _ _ _ _ _ _ _ _)
      | (with_reducible exact ih4 _ _ _ _ _ _ _)
      | (with_reducible exact ih5 _ _ _ _ _)
      | (with_reducible exact ih6 _ _ _ _ _ _ _)
      | (with_reducible exact funcs_alike.mono _ _)
      | (with_reducible exact funcs_fits.mono _ _ _)
      | (with_reducible exact LeO.refl _)
      | (with_reducible exact LeO.none _)
      | (with_reducible refine LeO.ite ?_ ?_)
      | (with_reducible refine LeO.bind ?_ (fun _ => ?_))
      | exact ih0 _ _ _ _ _
      | exact ih1 _ _ _ _
      | exact ih2 _ _ _ _ _
      | exact ih3 _ _ _ _ _ _ _ _
      | exact ih4 _ _ _ _ _ _ _
      | exact ih5 _ _ _ _ _
      | exact ih6 _ _ _ _ _ _ _
      | exact funcs_alike.mono _ _
      | exact funcs_fits.mono _ _ _
      | exact LeO.none _
      | refine LeO.ite ?_ ?_
      | refine LeO.bind ?_ (fun _ => ?_)
set_option maxHeartbeats 8000000 in
set_option maxRecDepth 100000 in
theorem funcs_Kind.calls (k : Nat) (a0 : ByteArray) (A1 : Option Addr) (c1 : Nat) (l1 : List Int) (r1 : Int) (r2 : Int) (w : World) (hr1 : Kd.C (Kd.int .i64) w A1 l1.length l1) (hc1 : l1.length ≤ c1) (h : funcs_Kind.f k a0 l1 = some (r1, r2)) :
    Calls Tryz.prog 10 #[.string a0, .slice A1 l1.length c1] w fun e w' => e = .returned (.tuple #[.int .i64 r1, .int .i64 r2]) ∧ Below w.heap.size w w' := by
  have HR1 := Aside0.mk hr1
  have HC1 := Aside0.mk hc1
  clear hr1 hc1
  have HB := Aside0.mk (Below.refl w.heap.size w)
  have H : (funcs_Kind.l0 k a0 l1 l1 (l1.length : Int) 0) = some (r1, r2) := h
  clear h
  have H' := Aside0.mk H
  clear H
  go_enter Tryz.func10, Tryz.ntmps10
  go_wp2
  go_loopg [17] k (fun kq v17 w' => ∃ (x17_1 : Int), v17 = .int .i64 x17_1 ∧ Aside0 (funcs_Kind.l0 kq a0 l1 l1 (l1.length : Int) x17_1 = some (r1, r2)) ∧ Aside0 (kq ≤ k) ∧ Aside0 (Below w.heap.size w w'))
  case atStart => exact ⟨(0), (by first | rfl | (simp; done) | (simp [*]; done)), H', ⟨Nat.le_refl _⟩, ⟨by repeat (first | (with_reducible first | exact HB.out | apply below_alloc | apply pw_below_drewN | apply below_drew1) | exact HB.out)⟩⟩
  case round =>
    clear H'
    try clear c1
    try clear p2
    obtain ⟨x17_1, rfl, HA, HK1, HB⟩ := hrel
    cases gk with
    | zero => exact absurd HA.out (by simp [funcs_Kind.l0])
    | succ k1 =>
      have H := HA.out
      clear HA
      simp only [funcs_Kind.l0] at H
      by_cases c3 : x17_1 < (l1.length : Int)
      · rw [if_pos c3] at H
        have c3b0 : decide (x17_1 < (l1.length : Int)) = true := decide_eq_true c3
        clear c3
        by_cases c4 : 0 ≤ x17_1
        · rw [if_pos c4] at H
          have c4b0 : decide (0 ≤ x17_1) = true := decide_eq_true c4
          clear c4
          by_cases c5 : x17_1 < (l1.length : Int)
          · rw [if_pos c5] at H
            have c5b0 : decide (x17_1 < (l1.length : Int)) = true := decide_eq_true c5
            clear c5
            by_cases c6 : (rd l1 x17_1) < 0
            · rw [if_pos c6] at H
              have c6b0 : decide ((rd l1 x17_1) < 0) = true := decide_eq_true c6
              clear c6
              simp only [Option.some.injEq, Prod.mk.injEq] at H
              obtain ⟨rfl, rfl⟩ := H
              have p123 : 0 ≤ (x17_1 : Int) := of_decide_eq_true (by first | (with_reducible assumption) | assumption)
              have q123 : x17_1 < (l1.length : Int) := of_decide_eq_true (by first | (with_reducible assumption) | assumption)
              obtain ⟨ad123, e123, hx123_0⟩ := Kd.at_int HR1.out x17_1 p123 q123
              cases e123
              replace hx123_0 := (HB.out.cell (World.block_lt_of_cell? w _ hx123_0)).trans hx123_0
              replace p123 := eq_true p123
              replace q123 := eq_true q123
              go_wp2
              go_ret2
              exact ⟨by first | rfl | (simp [errW_none, errW_some] <;> rfl) | (simp [*, errW_none, errW_some] <;> rfl), by repeat (first | (with_reducible first | exact HB.out | apply below_alloc | apply pw_below_drewN | apply below_drew1) | exact HB.out)⟩
            · rw [if_neg c6] at H
              have c6b0 : decide ((rd l1 x17_1) < 0) = false := decide_eq_false c6
              clear c6
              by_cases c7 : (rd l1 x17_1) > 4
              · rw [if_pos c7] at H
                have c7b0 : decide (4 < (rd l1 x17_1)) = true := decide_eq_true c7
                clear c7
                simp only [Option.some.injEq, Prod.mk.injEq] at H
                obtain ⟨rfl, rfl⟩ := H
                have p123 : 0 ≤ (x17_1 : Int) := of_decide_eq_true (by first | (with_reducible assumption) | assumption)
                have q123 : x17_1 < (l1.length : Int) := of_decide_eq_true (by first | (with_reducible assumption) | assumption)
                obtain ⟨ad123, e123, hx123_0⟩ := Kd.at_int HR1.out x17_1 p123 q123
                cases e123
                replace hx123_0 := (HB.out.cell (World.block_lt_of_cell? w _ hx123_0)).trans hx123_0
                replace p123 := eq_true p123
                replace q123 := eq_true q123
                go_wp2
                go_ret2
                exact ⟨by first | rfl | (simp [errW_none, errW_some] <;> rfl) | (simp [*, errW_none, errW_some] <;> rfl), by repeat (first | (with_reducible first | exact HB.out | apply below_alloc | apply pw_below_drewN | apply below_drew1) | exact HB.out)⟩
              · rw [if_neg c7] at H
                have c7b0 : decide (4 < (rd l1 x17_1)) = false := decide_eq_false c7
                clear c7
                have H' := Aside0.mk H
                clear H
                have p123 : 0 ≤ (x17_1 : Int) := of_decide_eq_true (by first | (with_reducible assumption) | assumption)
                have q123 : x17_1 < (l1.length : Int) := of_decide_eq_true (by first | (with_reducible assumption) | assumption)
                obtain ⟨ad123, e123, hx123_0⟩ := Kd.at_int HR1.out x17_1 p123 q123
                cases e123
                replace hx123_0 := (HB.out.cell (World.block_lt_of_cell? w _ hx123_0)).trans hx123_0
                replace p123 := eq_true p123
                replace q123 := eq_true q123
                go_wp2
                go_roundg k1
                case measure => have := HK1.out; omega
                case rel => exact ⟨(wrap64 (x17_1 + 1)), (by first | rfl | (simp; done) | (simp [*]; done)), H', ⟨by have := HK1.out; omega⟩, ⟨by repeat (first | (with_reducible first | exact HB.out | apply below_alloc | apply pw_below_drewN | apply below_drew1) | exact HB.out)⟩⟩
          · rw [if_neg c5] at H
            exact absurd H (by simp)
        · rw [if_neg c4] at H
          exact absurd H (by simp)
      · rw [if_neg c3] at H
        have c3b0 : decide (x17_1 < (l1.length : Int)) = false := decide_eq_false c3
        clear c3
        have HC8 := Aside0.mk H
        clear H
        go_upto_region 8 with (fail)
        go_cut [9] (fun v9 wc => ∃ (kq : Nat) (x9_7 : Bool), v9 = .bool x9_7 ∧ Aside0 (funcs_Kind.j1 kq a0 l1 (l1.length : Int) x9_7 = some (r1, r2)) ∧ Aside0 (kq ≤ k1) ∧ Aside0 (Below w.heap.size w wc))
        case first =>
          have H := HC8.out
          clear HC8
          by_cases c9 : (l1.length : Int) = 1
          · rw [if_pos c9] at H
            have c9b0 : ((l1.length : Int) == 1) = true := beq_iff_eq.mpr c9
            have c9b1 : ((l1.length : Int) != 1) = false := bne_eq_false_iff_eq.mpr c9
            clear c9
            (first | rw [c9b0] | (simp only [i64_w, i32_w]; rw [c9b0]) | skip)
            by_cases c10 : 0 < (l1.length : Int)
            · rw [if_pos c10] at H
              have c10b0 : decide (0 < (l1.length : Int)) = true := decide_eq_true c10
              have c10b1 : decide (0 < l1.length) = true := decide_eq_true (by omega)
              clear c10
              obtain ⟨y125, hy125⟩ : ∃ y_ : List Int, y_ = (([2, 3] : List Int)) := ⟨_, rfl⟩
              replace H : ((funcs_fits.f k1 (rd l1 0) y125).bind fun t128 => (funcs_Kind.j1 k1 a0 l1 (l1.length : Int) t128)) = some (r1, r2) := by first | (rw [hy125]; with_reducible exact H) | (have H2_ := (Option.bind_some _ _).symm.trans H; rw [hy125]; with_reducible exact H2_) | (have H2_ := (Option.bind_some _ _).symm.trans H; with_reducible exact H2_) | with_reducible exact H | (rw [hy125]; exact H) | exact H
              have Ny125 := Aside0.mk hy125
              clear hy125
              replace H := Option.bind_eq_some_iff.mp H
              obtain ⟨t128, A110, H⟩ := H
              replace H : (funcs_Kind.j1 k1 a0 l1 (l1.length : Int) t128) = some (r1, r2) := H
              have A11 := Aside0.mk A110
              clear A110
              have H' := Aside0.mk H
              clear H
              have p124 : 0 ≤ (0 : Int) := (by omega)
              have q124 : 0 < (l1.length : Int) := of_decide_eq_true (by first | (with_reducible assumption) | assumption)
              obtain ⟨ad124, e124, hx124_0⟩ := Kd.at_int HR1.out 0 p124 q124
              cases e124
              have qi124 : (0 < l1.length) = True := eq_true (by omega)
              (try rw [show ((0 : Int)).toNat = 0 from rfl] at hx124_0)
              (try rw [Addr.add_zero'] at hx124_0)
              replace hx124_0 := (HB.out.cell (World.block_lt_of_cell? w _ hx124_0)).trans hx124_0
              replace p124 := eq_true p124
              replace q124 := eq_true q124
              go_wp2_with (first | ((with_reducible refine gate_dst (N := 36) rfl ?_); (try (refine gate_guard (by rfl) ?_; dsimp only)); refine Kd.R_lit (Kd.int .i64) _ 3 ?hg (N := 36) ?hd (xs := ([2, 3] : List Int)) (inner := [.int .i64 2, .int .i64 3]) (ok := fun _ => True) (okp := fun _ => True) ?hr ?hp (fun _ hk => hk) trivial (Below.refl _ _) (Nat.le_refl _) (by simp) ?_; (case hd => rfl); (case hg => rfl); (case hr => first | (go_simp; done) | (go_simp; rfl)); (case hp => exact (Reps.one (show Kd.M (Kd.int .i64) _ _ _ 2 [.int .i64 2] from rfl) (Reps.one (show Kd.M (Kd.int .i64) _ _ _ 3 [.int .i64 3] from rfl) (Reps.none _ _)))); intro v126 w12 ho13 hb hg_ hnew_; clear hg_ hnew_; (first | rw [← Ny125.out] at ho13 | (simp only [Int.reduceToNat] at ho13; rw [← Ny125.out] at ho13)); have n0_ := Aside0.mk (Kd.R_lower ho13 (below_size (by repeat (first | (with_reducible first | exact HB.out | apply below_alloc | apply pw_below_drewN | apply below_drew1) | exact HB.out)))); have n1_ := Aside0.mk (below_step (by repeat (first | (with_reducible first | exact HB.out | apply below_alloc | apply pw_below_drewN | apply below_drew1) | exact HB.out)) hb); clear HB; have HO127 := n0_; have HB := n1_; clear n0_ n1_; clear hb ho13; obtain ⟨Ao14, co14, eo14⟩ := Kd.R_slice HO127.out; subst eo14) | (go_at_call 21; (with_reducible refine (funcs_fits.calls k1 (rd l1 0) _ _ y125 t128 _ ?side1 ?side2 A11.out).mono ?_); (case side1 => repeat (first | exact (Kd.R_reads' HO127.out).2.2 | (with_reducible refine Kd.C_alloc ?_ _) | (with_reducible refine Kd.C_drewN ?_ _) | (with_reducible refine Kd.C_drew ?_))); (case side2 => exact (Kd.R_reads' HO127.out).2.1); rintro e w' ⟨rfl, ⟨nd, rfl⟩⟩))
              go_meet
              case rel => exact ⟨_, (t128), (by first | rfl | (simp; done) | (simp [*]; done)), H', ⟨by have := HK1.out; first | omega | exact Nat.le_refl _⟩, ⟨by repeat (first | (with_reducible first | exact HB.out | apply below_alloc | apply pw_below_drewN | apply below_drew1) | exact HB.out)⟩⟩
            · rw [if_neg c10] at H
              exact absurd H (by simp)
          · rw [if_neg c9] at H
            have c9b0 : ((l1.length : Int) == 1) = false := beq_eq_false_iff_ne.mpr c9
            have c9b1 : ((l1.length : Int) != 1) = true := bne_iff_ne.mpr c9
            (first | rw [c9b0] | (simp only [i64_w, i32_w]; rw [c9b0]) | skip)
            have H' := Aside0.mk H
            clear H
            go_wp2
            go_meet
            case rel => exact ⟨_, (false), (by first | rfl | (simp; done) | (simp [*]; done)), H', ⟨by have := HK1.out; first | omega | exact Nat.le_refl _⟩, ⟨by repeat (first | (with_reducible first | exact HB.out | apply below_alloc | apply pw_below_drewN | apply below_drew1) | exact HB.out)⟩⟩
        case rest =>
          clear HC8
          try clear c1
          try clear p1
          try clear q1
          try clear hx1
          try clear qi1
          try clear p2
          try clear c3
          try clear c3b0
          try clear c4
          try clear c4b0
          try clear c5
          try clear c5b0
          try clear c6
          try clear c6b0
          try clear p6
          try clear c7
          try clear c7b0
          try clear c9
          try clear c9b0
          try clear c9b1
          try clear c10
          try clear c10b0
          try clear c10b1
          try clear p12
          try clear q12
          try clear hx12
          try clear qi12
          try clear hx123_0
          try clear hx124_0
          try clear p123
          try clear p124
          try clear p2
          try clear q123
          try clear q124
          obtain ⟨kq, x9_7, rfl, HA, HJ7, HB⟩ := hcut
          cases kq with
          | zero => exact absurd HA.out (by simp [funcs_Kind.j1])
          | succ kj7 =>
            have H := HA.out
            clear HA
            simp only [funcs_Kind.j1] at H
            have HC15 := Aside0.mk H
            clear H
            go_upto_region 9 with (fail)
            go_cut [10] (fun v10 wc => ∃ (kq : Nat) (x10_14 : Bool), v10 = .bool x10_14 ∧ Aside0 (funcs_Kind.j2 kq a0 l1 (l1.length : Int) x9_7 x10_14 = some (r1, r2)) ∧ Aside0 (kq ≤ kj7) ∧ Aside0 (Below w.heap.size w wc))
            case first =>
              have H := HC15.out
              clear HC15
              by_cases c16 : (l1.length : Int) = 1
              · rw [if_pos c16] at H
                have c16b0 : ((l1.length : Int) == 1) = true := beq_iff_eq.mpr c16
                have c16b1 : ((l1.length : Int) != 1) = false := bne_eq_false_iff_eq.mpr c16
                clear c16
                (first | rw [c16b0] | (simp only [i64_w, i32_w]; rw [c16b0]) | skip)
                by_cases c17 : 0 < (l1.length : Int)
                · rw [if_pos c17] at H
                  have c17b0 : decide (0 < (l1.length : Int)) = true := decide_eq_true c17
                  have c17b1 : decide (0 < l1.length) = true := decide_eq_true (by omega)
                  clear c17
                  obtain ⟨y130, hy130⟩ : ∃ y_ : List Int, y_ = (([4] : List Int)) := ⟨_, rfl⟩
                  replace H : ((funcs_fits.f kj7 (rd l1 0) y130).bind fun t133 => (funcs_Kind.j2 kj7 a0 l1 (l1.length : Int) x9_7 t133)) = some (r1, r2) := by first | (rw [hy130]; with_reducible exact H) | (have H2_ := (Option.bind_some _ _).symm.trans H; rw [hy130]; with_reducible exact H2_) | (have H2_ := (Option.bind_some _ _).symm.trans H; with_reducible exact H2_) | with_reducible exact H | (rw [hy130]; exact H) | exact H
                  have Ny130 := Aside0.mk hy130
                  clear hy130
                  replace H := Option.bind_eq_some_iff.mp H
                  obtain ⟨t133, A180, H⟩ := H
                  replace H : (funcs_Kind.j2 kj7 a0 l1 (l1.length : Int) x9_7 t133) = some (r1, r2) := H
                  have A18 := Aside0.mk A180
                  clear A180
                  have H' := Aside0.mk H
                  clear H
                  have p129 : 0 ≤ (0 : Int) := (by omega)
                  have q129 : 0 < (l1.length : Int) := of_decide_eq_true (by first | (with_reducible assumption) | assumption)
                  obtain ⟨ad129, e129, hx129_0⟩ := Kd.at_int HR1.out 0 p129 q129
                  cases e129
                  have qi129 : (0 < l1.length) = True := eq_true (by omega)
                  (try rw [show ((0 : Int)).toNat = 0 from rfl] at hx129_0)
                  (try rw [Addr.add_zero'] at hx129_0)
                  replace hx129_0 := (HB.out.cell (World.block_lt_of_cell? w _ hx129_0)).trans hx129_0
                  replace p129 := eq_true p129
                  replace q129 := eq_true q129
                  go_wp2_with (first | ((with_reducible refine gate_dst (N := 45) rfl ?_); (try (refine gate_guard (by rfl) ?_; dsimp only)); refine Kd.R_lit (Kd.int .i64) _ 3 ?hg (N := 45) ?hd (xs := ([4] : List Int)) (inner := [.int .i64 4]) (ok := fun _ => True) (okp := fun _ => True) ?hr ?hp (fun _ hk => hk) trivial (Below.refl _ _) (Nat.le_refl _) (by simp) ?_; (case hd => rfl); (case hg => rfl); (case hr => first | (go_simp; done) | (go_simp; rfl)); (case hp => exact (Reps.one (show Kd.M (Kd.int .i64) _ _ _ 4 [.int .i64 4] from rfl) (Reps.none _ _))); intro v131 w19 ho20 hb hg_ hnew_; clear hg_ hnew_; (first | rw [← Ny130.out] at ho20 | (simp only [Int.reduceToNat] at ho20; rw [← Ny130.out] at ho20)); have n0_ := Aside0.mk (Kd.R_lower ho20 (below_size (by repeat (first | (with_reducible first | exact HB.out | apply below_alloc | apply pw_below_drewN | apply below_drew1) | exact HB.out)))); have n1_ := Aside0.mk (below_step (by repeat (first | (with_reducible first | exact HB.out | apply below_alloc | apply pw_below_drewN | apply below_drew1) | exact HB.out)) hb); clear HB; have HO132 := n0_; have HB := n1_; clear n0_ n1_; clear hb ho20; obtain ⟨Ao21, co21, eo21⟩ := Kd.R_slice HO132.out; subst eo21) | (go_at_call 21; (with_reducible refine (funcs_fits.calls kj7 (rd l1 0) _ _ y130 t133 _ ?side1 ?side2 A18.out).mono ?_); (case side1 => repeat (first | exact (Kd.R_reads' HO132.out).2.2 | (with_reducible refine Kd.C_alloc ?_ _) | (with_reducible refine Kd.C_drewN ?_ _) | (with_reducible refine Kd.C_drew ?_))); (case side2 => exact (Kd.R_reads' HO132.out).2.1); rintro e w' ⟨rfl, ⟨nd, rfl⟩⟩))
                  go_meet
                  case rel => exact ⟨_, (t133), (by first | rfl | (simp; done) | (simp [*]; done)), H', ⟨by have := HK1.out; have := HJ7.out; first | omega | exact Nat.le_refl _⟩, ⟨by repeat (first | (with_reducible first | exact HB.out | apply below_alloc | apply pw_below_drewN | apply below_drew1) | exact HB.out)⟩⟩
                · rw [if_neg c17] at H
                  exact absurd H (by simp)
              · rw [if_neg c16] at H
                have c16b0 : ((l1.length : Int) == 1) = false := beq_eq_false_iff_ne.mpr c16
                have c16b1 : ((l1.length : Int) != 1) = true := bne_iff_ne.mpr c16
                (first | rw [c16b0] | (simp only [i64_w, i32_w]; rw [c16b0]) | skip)
                have H' := Aside0.mk H
                clear H
                go_wp2
                go_meet
                case rel => exact ⟨_, (false), (by first | rfl | (simp; done) | (simp [*]; done)), H', ⟨by have := HK1.out; have := HJ7.out; first | omega | exact Nat.le_refl _⟩, ⟨by repeat (first | (with_reducible first | exact HB.out | apply below_alloc | apply pw_below_drewN | apply below_drew1) | exact HB.out)⟩⟩
            case rest =>
              clear HC15
              try clear c1
              try clear p1
              try clear q1
              try clear hx1
              try clear qi1
              try clear p2
              try clear c3
              try clear c3b0
              try clear c4
              try clear c4b0
              try clear c5
              try clear c5b0
              try clear c6
              try clear c6b0
              try clear p6
              try clear c7
              try clear c7b0
              try clear c9
              try clear c9b0
              try clear c9b1
              try clear c10
              try clear c10b0
              try clear c10b1
              try clear p12
              try clear q12
              try clear hx12
              try clear qi12
              try clear c16
              try clear c16b0
              try clear c16b1
              try clear c17
              try clear c17b0
              try clear c17b1
              try clear hx123_0
              try clear hx124_0
              try clear hx129_0
              try clear p1
              try clear p12
              try clear p123
              try clear p124
              try clear p129
              try clear p2
              try clear p6
              try clear q1
              try clear q12
              try clear q123
              try clear q124
              try clear q129
              obtain ⟨kq, x10_14, rfl, HA, HJ14, HB⟩ := hcut
              cases kq with
              | zero => exact absurd HA.out (by simp [funcs_Kind.j2])
              | succ kj14 =>
                have H := HA.out
                clear HA
                simp only [funcs_Kind.j2] at H
                by_cases c22 : a0.toList = ([97, 98, 115] : List UInt8)
                · rw [if_pos c22] at H
                  have c22b0 : (a0.toList == ([97, 98, 115] : List UInt8)) = true := beq_iff_eq.mpr c22
                  have c22b1 : (a0.toList != ([97, 98, 115] : List UInt8)) = false := bne_eq_false_iff_eq.mpr c22
                  clear c22
                  by_cases c23 : x9_7 = true
                  · subst c23
                    have H1 : (if 0 < (l1.length : Int) then (some (rd l1 0, 0)) else (none)) = some (r1, r2) := by rw [if_pos rfl] at H; exact H
                    clear H
                    have H := H1
                    clear H1
                    by_cases c24 : 0 < (l1.length : Int)
                    · rw [if_pos c24] at H
                      have c24b0 : decide (0 < (l1.length : Int)) = true := decide_eq_true c24
                      have c24b1 : decide (0 < l1.length) = true := decide_eq_true (by omega)
                      clear c24
                      simp only [Option.some.injEq, Prod.mk.injEq] at H
                      obtain ⟨rfl, rfl⟩ := H
                      have p134 : 0 ≤ (0 : Int) := (by omega)
                      have q134 : 0 < (l1.length : Int) := of_decide_eq_true (by first | (with_reducible assumption) | assumption)
                      obtain ⟨ad134, e134, hx134_0⟩ := Kd.at_int HR1.out 0 p134 q134
                      cases e134
                      have qi134 : (0 < l1.length) = True := eq_true (by omega)
                      (try rw [show ((0 : Int)).toNat = 0 from rfl] at hx134_0)
                      (try rw [Addr.add_zero'] at hx134_0)
                      replace hx134_0 := (HB.out.cell (World.block_lt_of_cell? w _ hx134_0)).trans hx134_0
                      replace p134 := eq_true p134
                      replace q134 := eq_true q134
                      go_wp2
                      go_ret2
                      exact ⟨by first | rfl | (simp [errW_none, errW_some] <;> rfl) | (simp [*, errW_none, errW_some] <;> rfl), by repeat (first | (with_reducible first | exact HB.out | apply below_alloc | apply pw_below_drewN | apply below_drew1) | exact HB.out)⟩
                    · rw [if_neg c24] at H
                      exact absurd H (by simp)
                  · replace c23 := Bool.eq_false_iff.mpr c23
                    subst c23
                    have H1 : (some (0, 100)) = some (r1, r2) := by rw [if_neg (show ¬ (false = true) by decide)] at H; exact H
                    clear H
                    have H := H1
                    clear H1
                    simp only [Option.some.injEq, Prod.mk.injEq] at H
                    obtain ⟨rfl, rfl⟩ := H
                    go_wp2
                    go_ret2
                    exact ⟨by first | rfl | (simp [errW_none, errW_some] <;> rfl) | (simp [*, errW_none, errW_some] <;> rfl), by repeat (first | (with_reducible first | exact HB.out | apply below_alloc | apply pw_below_drewN | apply below_drew1) | exact HB.out)⟩
                · rw [if_neg c22] at H
                  have c22b0 : (a0.toList == ([97, 98, 115] : List UInt8)) = false := beq_eq_false_iff_ne.mpr c22
                  have c22b1 : (a0.toList != ([97, 98, 115] : List UInt8)) = true := bne_iff_ne.mpr c22
                  have HC25 := Aside0.mk H
                  clear H
                  go_upto_if 55 with (fail)
                  go_cut [55] (fun v55 wc => ∃ (kq : Nat) (x55_24 : Bool), v55 = .bool x55_24 ∧ Aside0 (funcs_Kind.j3 kq l1 (l1.length : Int) x9_7 x10_14 0 false a0 x55_24 = some (r1, r2)) ∧ Aside0 (kq ≤ kj14) ∧ Aside0 (Below w.heap.size w wc))
                  case first =>
                    have H := HC25.out
                    clear HC25
                    by_cases c26 : a0.toList = ([99, 101, 105, 108] : List UInt8)
                    · rw [if_pos c26] at H
                      have c26b0 : (a0.toList == ([99, 101, 105, 108] : List UInt8)) = true := beq_iff_eq.mpr c26
                      have c26b1 : (a0.toList != ([99, 101, 105, 108] : List UInt8)) = false := bne_eq_false_iff_eq.mpr c26
                      clear c26
                      (first | rw [c26b0] | (simp only [i64_w, i32_w]; rw [c26b0]) | skip)
                      have H' := Aside0.mk H
                      clear H
                      go_wp2
                      go_meet
                      case rel => exact ⟨_, ((a0.toList == ([99, 101, 105, 108] : List UInt8))), (by first | rfl | (simp; done) | (simp [*]; done)), H', ⟨by have := HK1.out; have := HJ7.out; have := HJ14.out; first | omega | exact Nat.le_refl _⟩, ⟨by repeat (first | (with_reducible first | exact HB.out | apply below_alloc | apply pw_below_drewN | apply below_drew1) | exact HB.out)⟩⟩
                    · rw [if_neg c26] at H
                      have c26b0 : (a0.toList == ([99, 101, 105, 108] : List UInt8)) = false := beq_eq_false_iff_ne.mpr c26
                      have c26b1 : (a0.toList != ([99, 101, 105, 108] : List UInt8)) = true := bne_iff_ne.mpr c26
                      (first | rw [c26b0] | (simp only [i64_w, i32_w]; rw [c26b0]) | skip)
                      by_cases c27 : a0.toList = ([102, 108, 111, 111, 114] : List UInt8)
                      · rw [if_pos c27] at H
                        have c27b0 : (a0.toList == ([102, 108, 111, 111, 114] : List UInt8)) = true := beq_iff_eq.mpr c27
                        have c27b1 : (a0.toList != ([102, 108, 111, 111, 114] : List UInt8)) = false := bne_eq_false_iff_eq.mpr c27
                        clear c27
                        have H' := Aside0.mk H
                        clear H
                        go_wp2
                        go_meet
                        case rel => exact ⟨_, ((a0.toList == ([102, 108, 111, 111, 114] : List UInt8))), (by first | rfl | (simp; done) | (simp [*]; done)), H', ⟨by have := HK1.out; have := HJ7.out; have := HJ14.out; first | omega | exact Nat.le_refl _⟩, ⟨by repeat (first | (with_reducible first | exact HB.out | apply below_alloc | apply pw_below_drewN | apply below_drew1) | exact HB.out)⟩⟩
                      · rw [if_neg c27] at H
                        have c27b0 : (a0.toList == ([102, 108, 111, 111, 114] : List UInt8)) = false := beq_eq_false_iff_ne.mpr c27
                        have c27b1 : (a0.toList != ([102, 108, 111, 111, 114] : List UInt8)) = true := bne_iff_ne.mpr c27
                        by_cases c28 : a0.toList = ([114, 111, 117, 110, 100] : List UInt8)
                        · rw [if_pos c28] at H
                          have c28b0 : (a0.toList == ([114, 111, 117, 110, 100] : List UInt8)) = true := beq_iff_eq.mpr c28
                          have c28b1 : (a0.toList != ([114, 111, 117, 110, 100] : List UInt8)) = false := bne_eq_false_iff_eq.mpr c28
                          clear c28
                          have H' := Aside0.mk H
                          clear H
                          go_wp2
                          go_meet
                          case rel => exact ⟨_, ((a0.toList == ([114, 111, 117, 110, 100] : List UInt8))), (by first | rfl | (simp; done) | (simp [*]; done)), H', ⟨by have := HK1.out; have := HJ7.out; have := HJ14.out; first | omega | exact Nat.le_refl _⟩, ⟨by repeat (first | (with_reducible first | exact HB.out | apply below_alloc | apply pw_below_drewN | apply below_drew1) | exact HB.out)⟩⟩
                        · rw [if_neg c28] at H
                          have c28b0 : (a0.toList == ([114, 111, 117, 110, 100] : List UInt8)) = false := beq_eq_false_iff_ne.mpr c28
                          have c28b1 : (a0.toList != ([114, 111, 117, 110, 100] : List UInt8)) = true := bne_iff_ne.mpr c28
                          by_cases c29 : a0.toList = ([115, 105, 103, 110] : List UInt8)
                          · rw [if_pos c29] at H
                            have c29b0 : (a0.toList == ([115, 105, 103, 110] : List UInt8)) = true := beq_iff_eq.mpr c29
                            have c29b1 : (a0.toList != ([115, 105, 103, 110] : List UInt8)) = false := bne_eq_false_iff_eq.mpr c29
                            clear c29
                            have H' := Aside0.mk H
                            clear H
                            go_wp2
                            go_meet
                            case rel => exact ⟨_, ((a0.toList == ([115, 105, 103, 110] : List UInt8))), (by first | rfl | (simp; done) | (simp [*]; done)), H', ⟨by have := HK1.out; have := HJ7.out; have := HJ14.out; first | omega | exact Nat.le_refl _⟩, ⟨by repeat (first | (with_reducible first | exact HB.out | apply below_alloc | apply pw_below_drewN | apply below_drew1) | exact HB.out)⟩⟩
                          · rw [if_neg c29] at H
                            have c29b0 : (a0.toList == ([115, 105, 103, 110] : List UInt8)) = false := beq_eq_false_iff_ne.mpr c29
                            have c29b1 : (a0.toList != ([115, 105, 103, 110] : List UInt8)) = true := bne_iff_ne.mpr c29
                            have H' := Aside0.mk H
                            clear H
                            go_wp2
                            go_meet
                            case rel => exact ⟨_, ((a0.toList == ([116, 111, 105, 110, 116] : List UInt8))), (by first | rfl | (simp; done) | (simp [*]; done)), H', ⟨by have := HK1.out; have := HJ7.out; have := HJ14.out; first | omega | exact Nat.le_refl _⟩, ⟨by repeat (first | (with_reducible first | exact HB.out | apply below_alloc | apply pw_below_drewN | apply below_drew1) | exact HB.out)⟩⟩
                  case rest =>
                    clear HC25
                    try clear c1
                    try clear p1
                    try clear q1
                    try clear hx1
                    try clear qi1
                    try clear c2
                    try clear p2
                    try clear c3
                    try clear c3b0
                    try clear c4
                    try clear c4b0
                    try clear c5
                    try clear c5b0
                    try clear c6
                    try clear c6b0
                    try clear p6
                    try clear c7
                    try clear c7b0
                    try clear c9
                    try clear c9b0
                    try clear c9b1
                    try clear c10
                    try clear c10b0
                    try clear c10b1
                    try clear p12
                    try clear q12
                    try clear hx12
                    try clear qi12
                    try clear p13
                    try clear q13
                    try clear hx13
                    try clear qi13
                    try clear c16
                    try clear c16b0
                    try clear c16b1
                    try clear c17
                    try clear c17b0
                    try clear c17b1
                    try clear c22
                    try clear c22b0
                    try clear c22b1
                    try clear c23
                    try clear c24
                    try clear c24b0
                    try clear c24b1
                    try clear c26
                    try clear c26b0
                    try clear c26b1
                    try clear c27
                    try clear c27b0
                    try clear c27b1
                    try clear c28
                    try clear c28b0
                    try clear c28b1
                    try clear c29
                    try clear c29b0
                    try clear c29b1
                    try clear hx123_0
                    try clear hx124_0
                    try clear hx129_0
                    try clear hx134_0
                    try clear p1
                    try clear p12
                    try clear p123
                    try clear p124
                    try clear p129
                    try clear p134
                    try clear p2
                    try clear p6
                    try clear q1
                    try clear q12
                    try clear q123
                    try clear q124
                    try clear q129
                    try clear q134
                    obtain ⟨kq, x55_24, rfl, HA, HJ24, HB⟩ := hcut
                    cases kq with
                    | zero => exact absurd HA.out (by simp [funcs_Kind.j3])
                    | succ kj24 =>
                      have H := HA.out
                      clear HA
                      simp only [funcs_Kind.j3] at H
                      by_cases c30 : x55_24 = true
                      · subst c30
                        have H1 : (if x9_7 = true then (some (2, 0)) else (some (0, 100))) = some (r1, r2) := by rw [if_pos rfl] at H; exact H
                        clear H
                        have H := H1
                        clear H1
                        by_cases c31 : x9_7 = true
                        · subst c31
                          have H1 : (some (2, 0)) = some (r1, r2) := by rw [if_pos rfl] at H; exact H
                          clear H
                          have H := H1
                          clear H1
                          simp only [Option.some.injEq, Prod.mk.injEq] at H
                          obtain ⟨rfl, rfl⟩ := H
                          go_wp2
                          go_ret2
                          exact ⟨by first | rfl | (simp [errW_none, errW_some] <;> rfl) | (simp [*, errW_none, errW_some] <;> rfl), by repeat (first | (with_reducible first | exact HB.out | apply below_alloc | apply pw_below_drewN | apply below_drew1) | exact HB.out)⟩
                        · replace c31 := Bool.eq_false_iff.mpr c31
                          subst c31
                          have H1 : (some (0, 100)) = some (r1, r2) := by rw [if_neg (show ¬ (false = true) by decide)] at H; exact H
                          clear H
                          have H := H1
                          clear H1
                          simp only [Option.some.injEq, Prod.mk.injEq] at H
                          obtain ⟨rfl, rfl⟩ := H
                          go_wp2
                          go_ret2
                          exact ⟨by first | rfl | (simp [errW_none, errW_some] <;> rfl) | (simp [*, errW_none, errW_some] <;> rfl), by repeat (first | (with_reducible first | exact HB.out | apply below_alloc | apply pw_below_drewN | apply below_drew1) | exact HB.out)⟩
                      · replace c30 := Bool.eq_false_iff.mpr c30
                        subst c30
                        have H1 : (if a0.toList = ([116, 111, 100, 101, 99] : List UInt8) then (if x9_7 = true then (some (3, 0)) else (some (0, 100))) else (if a0.toList = ([99, 111, 97, 108, 101, 115, 99, 101] : List UInt8) then (funcs_Kind.j4 kj24 l1 (l1.length : Int) x10_14 0 false a0 (a0.toList == ([99, 111, 97, 108, 101, 115, 99, 101] : List UInt8))) else (if a0.toList = ([103, 114, 101, 97, 116, 101, 115, 116] : List UInt8) then (funcs_Kind.j4 kj24 l1 (l1.length : Int) x10_14 0 false a0 (a0.toList == ([103, 114, 101, 97, 116, 101, 115, 116] : List UInt8))) else (funcs_Kind.j4 kj24 l1 (l1.length : Int) x10_14 0 false a0 (a0.toList == ([108, 101, 97, 115, 116] : List UInt8)))))) = some (r1, r2) := by rw [if_neg (show ¬ (false = true) by decide)] at H; exact H
                        clear H
                        have H := H1
                        clear H1
                        by_cases c32 : a0.toList = ([116, 111, 100, 101, 99] : List UInt8)
                        · rw [if_pos c32] at H
                          have c32b0 : (a0.toList == ([116, 111, 100, 101, 99] : List UInt8)) = true := beq_iff_eq.mpr c32
                          have c32b1 : (a0.toList != ([116, 111, 100, 101, 99] : List UInt8)) = false := bne_eq_false_iff_eq.mpr c32
                          clear c32
                          by_cases c33 : x9_7 = true
                          · subst c33
                            have H1 : (some (3, 0)) = some (r1, r2) := by rw [if_pos rfl] at H; exact H
                            clear H
                            have H := H1
                            clear H1
                            simp only [Option.some.injEq, Prod.mk.injEq] at H
                            obtain ⟨rfl, rfl⟩ := H
                            go_wp2
                            go_ret2
                            exact ⟨by first | rfl | (simp [errW_none, errW_some] <;> rfl) | (simp [*, errW_none, errW_some] <;> rfl), by repeat (first | (with_reducible first | exact HB.out | apply below_alloc | apply pw_below_drewN | apply below_drew1) | exact HB.out)⟩
                          · replace c33 := Bool.eq_false_iff.mpr c33
                            subst c33
                            have H1 : (some (0, 100)) = some (r1, r2) := by rw [if_neg (show ¬ (false = true) by decide)] at H; exact H
                            clear H
                            have H := H1
                            clear H1
                            simp only [Option.some.injEq, Prod.mk.injEq] at H
                            obtain ⟨rfl, rfl⟩ := H
                            go_wp2
                            go_ret2
                            exact ⟨by first | rfl | (simp [errW_none, errW_some] <;> rfl) | (simp [*, errW_none, errW_some] <;> rfl), by repeat (first | (with_reducible first | exact HB.out | apply below_alloc | apply pw_below_drewN | apply below_drew1) | exact HB.out)⟩
                        · rw [if_neg c32] at H
                          have c32b0 : (a0.toList == ([116, 111, 100, 101, 99] : List UInt8)) = false := beq_eq_false_iff_ne.mpr c32
                          have c32b1 : (a0.toList != ([116, 111, 100, 101, 99] : List UInt8)) = true := bne_iff_ne.mpr c32
                          have HC34 := Aside0.mk H
                          clear H
                          go_upto_if 65 with (fail)
                          go_cut [65] (fun v65 wc => ∃ (kq : Nat) (x65_33 : Bool), v65 = .bool x65_33 ∧ Aside0 (funcs_Kind.j4 kq l1 (l1.length : Int) x10_14 0 false a0 x65_33 = some (r1, r2)) ∧ Aside0 (kq ≤ kj24) ∧ Aside0 (Below w.heap.size w wc))
                          case first =>
                            have H := HC34.out
                            clear HC34
                            by_cases c35 : a0.toList = ([99, 111, 97, 108, 101, 115, 99, 101] : List UInt8)
                            · rw [if_pos c35] at H
                              have c35b0 : (a0.toList == ([99, 111, 97, 108, 101, 115, 99, 101] : List UInt8)) = true := beq_iff_eq.mpr c35
                              have c35b1 : (a0.toList != ([99, 111, 97, 108, 101, 115, 99, 101] : List UInt8)) = false := bne_eq_false_iff_eq.mpr c35
                              clear c35
                              (first | rw [c35b0] | (simp only [i64_w, i32_w]; rw [c35b0]) | skip)
                              have H' := Aside0.mk H
                              clear H
                              go_wp2
                              go_meet
                              case rel => exact ⟨_, ((a0.toList == ([99, 111, 97, 108, 101, 115, 99, 101] : List UInt8))), (by first | rfl | (simp; done) | (simp [*]; done)), H', ⟨by have := HK1.out; have := HJ7.out; have := HJ14.out; have := HJ24.out; first | omega | exact Nat.le_refl _⟩, ⟨by repeat (first | (with_reducible first | exact HB.out | apply below_alloc | apply pw_below_drewN | apply below_drew1) | exact HB.out)⟩⟩
                            · rw [if_neg c35] at H
                              have c35b0 : (a0.toList == ([99, 111, 97, 108, 101, 115, 99, 101] : List UInt8)) = false := beq_eq_false_iff_ne.mpr c35
                              have c35b1 : (a0.toList != ([99, 111, 97, 108, 101, 115, 99, 101] : List UInt8)) = true := bne_iff_ne.mpr c35
                              (first | rw [c35b0] | (simp only [i64_w, i32_w]; rw [c35b0]) | skip)
                              by_cases c36 : a0.toList = ([103, 114, 101, 97, 116, 101, 115, 116] : List UInt8)
                              · rw [if_pos c36] at H
                                have c36b0 : (a0.toList == ([103, 114, 101, 97, 116, 101, 115, 116] : List UInt8)) = true := beq_iff_eq.mpr c36
                                have c36b1 : (a0.toList != ([103, 114, 101, 97, 116, 101, 115, 116] : List UInt8)) = false := bne_eq_false_iff_eq.mpr c36
                                clear c36
                                have H' := Aside0.mk H
                                clear H
                                go_wp2
                                go_meet
                                case rel => exact ⟨_, ((a0.toList == ([103, 114, 101, 97, 116, 101, 115, 116] : List UInt8))), (by first | rfl | (simp; done) | (simp [*]; done)), H', ⟨by have := HK1.out; have := HJ7.out; have := HJ14.out; have := HJ24.out; first | omega | exact Nat.le_refl _⟩, ⟨by repeat (first | (with_reducible first | exact HB.out | apply below_alloc | apply pw_below_drewN | apply below_drew1) | exact HB.out)⟩⟩
                              · rw [if_neg c36] at H
                                have c36b0 : (a0.toList == ([103, 114, 101, 97, 116, 101, 115, 116] : List UInt8)) = false := beq_eq_false_iff_ne.mpr c36
                                have c36b1 : (a0.toList != ([103, 114, 101, 97, 116, 101, 115, 116] : List UInt8)) = true := bne_iff_ne.mpr c36
                                have H' := Aside0.mk H
                                clear H
                                go_wp2
                                go_meet
                                case rel => exact ⟨_, ((a0.toList == ([108, 101, 97, 115, 116] : List UInt8))), (by first | rfl | (simp; done) | (simp [*]; done)), H', ⟨by have := HK1.out; have := HJ7.out; have := HJ14.out; have := HJ24.out; first | omega | exact Nat.le_refl _⟩, ⟨by repeat (first | (with_reducible first | exact HB.out | apply below_alloc | apply pw_below_drewN | apply below_drew1) | exact HB.out)⟩⟩
                          case rest =>
                            clear HC34
                            try clear c1
                            try clear p1
                            try clear q1
                            try clear hx1
                            try clear qi1
                            try clear c2
                            try clear p2
                            try clear c3
                            try clear c3b0
                            try clear c4
                            try clear c4b0
                            try clear c5
                            try clear c5b0
                            try clear c6
                            try clear c6b0
                            try clear p6
                            try clear c7
                            try clear c7b0
                            try clear c9
                            try clear c9b0
                            try clear c9b1
                            try clear c10
                            try clear c10b0
                            try clear c10b1
                            try clear p12
                            try clear q12
                            try clear hx12
                            try clear qi12
                            try clear p13
                            try clear q13
                            try clear hx13
                            try clear qi13
                            try clear c16
                            try clear c16b0
                            try clear c16b1
                            try clear c17
                            try clear c17b0
                            try clear c17b1
                            try clear c22
                            try clear c22b0
                            try clear c22b1
                            try clear c23
                            try clear c24
                            try clear c24b0
                            try clear c24b1
                            try clear c26
                            try clear c26b0
                            try clear c26b1
                            try clear c27
                            try clear c27b0
                            try clear c27b1
                            try clear c28
                            try clear c28b0
                            try clear c28b1
                            try clear c29
                            try clear c29b0
                            try clear c29b1
                            try clear c30
                            try clear c31
                            try clear c32
                            try clear c32b0
                            try clear c32b1
                            try clear c33
                            try clear c35
                            try clear c35b0
                            try clear c35b1
                            try clear c36
                            try clear c36b0
                            try clear c36b1
                            try clear hx123_0
                            try clear hx124_0
                            try clear hx129_0
                            try clear hx134_0
                            try clear p1
                            try clear p12
                            try clear p123
                            try clear p124
                            try clear p129
                            try clear p13
                            try clear p134
                            try clear p2
                            try clear p6
                            try clear q1
                            try clear q12
                            try clear q123
                            try clear q124
                            try clear q129
                            try clear q13
                            try clear q134
                            obtain ⟨kq, x65_33, rfl, HA, HJ33, HB⟩ := hcut
                            cases kq with
                            | zero => exact absurd HA.out (by simp [funcs_Kind.j4])
                            | succ kj33 =>
                              have H := HA.out
                              clear HA
                              simp only [funcs_Kind.j4] at H
                              by_cases c37 : x65_33 = true
                              · subst c37
                                have H1 : ((funcs_alike.f kj33 l1).bind fun bt135 => (if bt135.2 = true then (if (l1.length : Int) ≥ 1 then (some (bt135.1, 0)) else (some (0, 100))) else (some (0, 100)))) = some (r1, r2) := by rw [if_pos rfl] at H; exact H
                                clear H
                                have H := H1
                                clear H1
                                replace H := Option.bind_eq_some_iff.mp H
                                obtain ⟨⟨t135, t136⟩, A380, H⟩ := H
                                replace H : (if t136 = true then (if (l1.length : Int) ≥ 1 then (some (t135, 0)) else (some (0, 100))) else (some (0, 100))) = some (r1, r2) := H
                                have A38 := Aside0.mk A380
                                clear A380
                                by_cases c39 : t136 = true
                                · subst c39
                                  have H1 : (if (l1.length : Int) ≥ 1 then (some (t135, 0)) else (some (0, 100))) = some (r1, r2) := by rw [if_pos rfl] at H; exact H
                                  clear H
                                  have H := H1
                                  clear H1
                                  by_cases c40 : (l1.length : Int) ≥ 1
                                  · rw [if_pos c40] at H
                                    have c40b0 : decide (1 ≤ (l1.length : Int)) = true := decide_eq_true c40
                                    have c40b1 : decide (1 ≤ l1.length) = true := decide_eq_true (by omega)
                                    clear c40
                                    simp only [Option.some.injEq, Prod.mk.injEq] at H
                                    obtain ⟨rfl, rfl⟩ := H
                                    go_wp2_with (first | ((with_reducible refine gate_callee (f := 22) rfl ?_); refine goesL_ (some 71) rfl rfl Tryz.func22 (by kernel_rfl) rfl #[.slice A1 l1.length c1] rfl (by (try simp only [List.map_toArray, List.map_cons, List.map_nil]); first | done | rfl | (simp only [List.length_drop, List.length_take]; rfl)) ?_; (with_reducible refine (funcs_alike.calls kj33 _ _ l1 t135 true _ ?side1 ?side2 A38.out).mono ?_); (case side1 => repeat (first | exact (Kd.C_below HR1.out HB.out) | (with_reducible refine Kd.C_alloc ?_ _) | (with_reducible refine Kd.C_drewN ?_ _) | (with_reducible refine Kd.C_drew ?_))); (case side2 => exact HC1.out); rintro e w41 ⟨rfl, hb⟩; refine ⟨_, rfl, ?_⟩; have n0_ := Aside0.mk (below_step (by repeat (first | (with_reducible first | exact HB.out | apply below_alloc | apply pw_below_drewN | apply below_drew1) | exact HB.out)) hb); clear HB; have HB := n0_; clear n0_; (try clear hb); (try clear hb2); (try clear hk); (try clear hi)))
                                    go_ret2
                                    exact ⟨by first | rfl | (simp [errW_none, errW_some] <;> rfl) | (simp [*, errW_none, errW_some] <;> rfl), by repeat (first | (with_reducible first | exact HB.out | apply below_alloc | apply pw_below_drewN | apply below_drew1) | exact HB.out)⟩
                                  · rw [if_neg c40] at H
                                    have c40b0 : decide (1 ≤ (l1.length : Int)) = false := decide_eq_false c40
                                    have c40b1 : decide (1 ≤ l1.length) = false := decide_eq_false (by omega)
                                    clear c40
                                    simp only [Option.some.injEq, Prod.mk.injEq] at H
                                    obtain ⟨rfl, rfl⟩ := H
                                    go_wp2_with (first | ((with_reducible refine gate_callee (f := 22) rfl ?_); refine goesL_ (some 71) rfl rfl Tryz.func22 (by kernel_rfl) rfl #[.slice A1 l1.length c1] rfl (by (try simp only [List.map_toArray, List.map_cons, List.map_nil]); first | done | rfl | (simp only [List.length_drop, List.length_take]; rfl)) ?_; (with_reducible refine (funcs_alike.calls kj33 _ _ l1 t135 true _ ?side1 ?side2 A38.out).mono ?_); (case side1 => repeat (first | exact (Kd.C_below HR1.out HB.out) | (with_reducible refine Kd.C_alloc ?_ _) | (with_reducible refine Kd.C_drewN ?_ _) | (with_reducible refine Kd.C_drew ?_))); (case side2 => exact HC1.out); rintro e w42 ⟨rfl, hb⟩; refine ⟨_, rfl, ?_⟩; have n0_ := Aside0.mk (below_step (by repeat (first | (with_reducible first | exact HB.out | apply below_alloc | apply pw_below_drewN | apply below_drew1) | exact HB.out)) hb); clear HB; have HB := n0_; clear n0_; (try clear hb); (try clear hb2); (try clear hk); (try clear hi)))
                                    go_ret2
                                    exact ⟨by first | rfl | (simp [errW_none, errW_some] <;> rfl) | (simp [*, errW_none, errW_some] <;> rfl), by repeat (first | (with_reducible first | exact HB.out | apply below_alloc | apply pw_below_drewN | apply below_drew1) | exact HB.out)⟩
                                · replace c39 := Bool.eq_false_iff.mpr c39
                                  subst c39
                                  have H1 : (some (0, 100)) = some (r1, r2) := by rw [if_neg (show ¬ (false = true) by decide)] at H; exact H
                                  clear H
                                  have H := H1
                                  clear H1
                                  simp only [Option.some.injEq, Prod.mk.injEq] at H
                                  obtain ⟨rfl, rfl⟩ := H
                                  go_wp2_with (first | ((with_reducible refine gate_callee (f := 22) rfl ?_); refine goesL_ (some 71) rfl rfl Tryz.func22 (by kernel_rfl) rfl #[.slice A1 l1.length c1] rfl (by (try simp only [List.map_toArray, List.map_cons, List.map_nil]); first | done | rfl | (simp only [List.length_drop, List.length_take]; rfl)) ?_; (with_reducible refine (funcs_alike.calls kj33 _ _ l1 t135 false _ ?side1 ?side2 A38.out).mono ?_); (case side1 => repeat (first | exact (Kd.C_below HR1.out HB.out) | (with_reducible refine Kd.C_alloc ?_ _) | (with_reducible refine Kd.C_drewN ?_ _) | (with_reducible refine Kd.C_drew ?_))); (case side2 => exact HC1.out); rintro e w43 ⟨rfl, hb⟩; refine ⟨_, rfl, ?_⟩; have n0_ := Aside0.mk (below_step (by repeat (first | (with_reducible first | exact HB.out | apply below_alloc | apply pw_below_drewN | apply below_drew1) | exact HB.out)) hb); clear HB; have HB := n0_; clear n0_; (try clear hb); (try clear hb2); (try clear hk); (try clear hi)))
                                  go_ret2
                                  exact ⟨by first | rfl | (simp [errW_none, errW_some] <;> rfl) | (simp [*, errW_none, errW_some] <;> rfl), by repeat (first | (with_reducible first | exact HB.out | apply below_alloc | apply pw_below_drewN | apply below_drew1) | exact HB.out)⟩
                              · replace c37 := Bool.eq_false_iff.mpr c37
                                subst c37
                                have H1 : (if a0.toList = ([110, 117, 108, 108, 105, 102] : List UInt8) then (if (l1.length : Int) = 2 then ((funcs_alike.f kj33 l1).bind fun bt137 => (if 0 < (l1.length : Int) then (if bt137.2 = true then (some (rd l1 0, 0)) else (some (0, 100))) else (none))) else (if false = true then (some (0, 0)) else (some (0, 100)))) else (if a0.toList = ([99, 111, 110, 99, 97, 116] : List UInt8) then (funcs_Kind.l1 kj33 4 (decide ((l1.length : Int) ≥ 1)) l1 (l1.length : Int) 0) else (if a0.toList = ([108, 101, 110, 103, 116, 104] : List UInt8) then (if x10_14 = true then (some (2, 0)) else (some (0, 100))) else (if a0.toList = ([108, 111, 119, 101, 114] : List UInt8) then (funcs_Kind.j6 kj33 l1 (l1.length : Int) x10_14 0 false a0 (a0.toList == ([108, 111, 119, 101, 114] : List UInt8))) else (if a0.toList = ([117, 112, 112, 101, 114] : List UInt8) then (funcs_Kind.j6 kj33 l1 (l1.length : Int) x10_14 0 false a0 (a0.toList == ([117, 112, 112, 101, 114] : List UInt8))) else (funcs_Kind.j6 kj33 l1 (l1.length : Int) x10_14 0 false a0 (a0.toList == ([116, 114, 105, 109] : List UInt8)))))))) = some (r1, r2) := by rw [if_neg (show ¬ (false = true) by decide)] at H; exact H
                                clear H
                                have H := H1
                                clear H1
                                by_cases c44 : a0.toList = ([110, 117, 108, 108, 105, 102] : List UInt8)
                                · rw [if_pos c44] at H
                                  have c44b0 : (a0.toList == ([110, 117, 108, 108, 105, 102] : List UInt8)) = true := beq_iff_eq.mpr c44
                                  have c44b1 : (a0.toList != ([110, 117, 108, 108, 105, 102] : List UInt8)) = false := bne_eq_false_iff_eq.mpr c44
                                  clear c44
                                  by_cases c45 : (l1.length : Int) = 2
                                  · rw [if_pos c45] at H
                                    have c45b0 : ((l1.length : Int) == 2) = true := beq_iff_eq.mpr c45
                                    have c45b1 : ((l1.length : Int) != 2) = false := bne_eq_false_iff_eq.mpr c45
                                    clear c45
                                    replace H := Option.bind_eq_some_iff.mp H
                                    obtain ⟨⟨t137, t138⟩, A460, H⟩ := H
                                    replace H : (if 0 < (l1.length : Int) then (if t138 = true then (some (rd l1 0, 0)) else (some (0, 100))) else (none)) = some (r1, r2) := H
                                    have A46 := Aside0.mk A460
                                    clear A460
                                    by_cases c47 : 0 < (l1.length : Int)
                                    · rw [if_pos c47] at H
                                      have c47b0 : decide (0 < (l1.length : Int)) = true := decide_eq_true c47
                                      have c47b1 : decide (0 < l1.length) = true := decide_eq_true (by omega)
                                      clear c47
                                      by_cases c48 : t138 = true
                                      · subst c48
                                        have H1 : (some (rd l1 0, 0)) = some (r1, r2) := by rw [if_pos rfl] at H; exact H
                                        clear H
                                        have H := H1
                                        clear H1
                                        simp only [Option.some.injEq, Prod.mk.injEq] at H
                                        obtain ⟨rfl, rfl⟩ := H
                                        go_wp2_with (first | ((with_reducible refine gate_callee (f := 22) rfl ?_); refine goesL_ (some 85) rfl rfl Tryz.func22 (by kernel_rfl) rfl #[.slice A1 l1.length c1] rfl (by (try simp only [List.map_toArray, List.map_cons, List.map_nil]); first | done | rfl | (simp only [List.length_drop, List.length_take]; rfl)) ?_; (with_reducible refine (funcs_alike.calls kj33 _ _ l1 t137 true _ ?side1 ?side2 A46.out).mono ?_); (case side1 => repeat (first | exact (Kd.C_below HR1.out HB.out) | (with_reducible refine Kd.C_alloc ?_ _) | (with_reducible refine Kd.C_drewN ?_ _) | (with_reducible refine Kd.C_drew ?_))); (case side2 => exact HC1.out); rintro e w49 ⟨rfl, hb⟩; refine ⟨_, rfl, ?_⟩; have n0_ := Aside0.mk (below_step (by repeat (first | (with_reducible first | exact HB.out | apply below_alloc | apply pw_below_drewN | apply below_drew1) | exact HB.out)) hb); clear HB; have HB := n0_; clear n0_; (try clear hb); (try clear hb2); (try clear hk); (try clear hi); have p139 : 0 ≤ (0 : Int) := (by omega); have q139 : 0 < (l1.length : Int) := of_decide_eq_true (by first | (with_reducible assumption) | assumption); obtain ⟨ad139, e139, hx139_0⟩ := Kd.at_int HR1.out 0 p139 q139; cases e139; have qi139 : (0 < l1.length) = True := eq_true (by omega); (try rw [show ((0 : Int)).toNat = 0 from rfl] at hx139_0); (try rw [Addr.add_zero'] at hx139_0); replace hx139_0 := (HB.out.cell (World.block_lt_of_cell? w _ hx139_0)).trans hx139_0; replace p139 := eq_true p139; replace q139 := eq_true q139))
                                        go_ret2
                                        exact ⟨by first | rfl | (simp [errW_none, errW_some] <;> rfl) | (simp [*, errW_none, errW_some] <;> rfl), by repeat (first | (with_reducible first | exact HB.out | apply below_alloc | apply pw_below_drewN | apply below_drew1) | exact HB.out)⟩
                                      · replace c48 := Bool.eq_false_iff.mpr c48
                                        subst c48
                                        have H1 : (some (0, 100)) = some (r1, r2) := by rw [if_neg (show ¬ (false = true) by decide)] at H; exact H
                                        clear H
                                        have H := H1
                                        clear H1
                                        simp only [Option.some.injEq, Prod.mk.injEq] at H
                                        obtain ⟨rfl, rfl⟩ := H
                                        go_wp2_with (first | ((with_reducible refine gate_callee (f := 22) rfl ?_); refine goesL_ (some 85) rfl rfl Tryz.func22 (by kernel_rfl) rfl #[.slice A1 l1.length c1] rfl (by (try simp only [List.map_toArray, List.map_cons, List.map_nil]); first | done | rfl | (simp only [List.length_drop, List.length_take]; rfl)) ?_; (with_reducible refine (funcs_alike.calls kj33 _ _ l1 t137 false _ ?side1 ?side2 A46.out).mono ?_); (case side1 => repeat (first | exact (Kd.C_below HR1.out HB.out) | (with_reducible refine Kd.C_alloc ?_ _) | (with_reducible refine Kd.C_drewN ?_ _) | (with_reducible refine Kd.C_drew ?_))); (case side2 => exact HC1.out); rintro e w50 ⟨rfl, hb⟩; refine ⟨_, rfl, ?_⟩; have n0_ := Aside0.mk (below_step (by repeat (first | (with_reducible first | exact HB.out | apply below_alloc | apply pw_below_drewN | apply below_drew1) | exact HB.out)) hb); clear HB; have HB := n0_; clear n0_; (try clear hb); (try clear hb2); (try clear hk); (try clear hi); have p139 : 0 ≤ (0 : Int) := (by omega); have q139 : 0 < (l1.length : Int) := of_decide_eq_true (by first | (with_reducible assumption) | assumption); obtain ⟨ad139, e139, hx139_0⟩ := Kd.at_int HR1.out 0 p139 q139; cases e139; have qi139 : (0 < l1.length) = True := eq_true (by omega); (try rw [show ((0 : Int)).toNat = 0 from rfl] at hx139_0); (try rw [Addr.add_zero'] at hx139_0); replace hx139_0 := (HB.out.cell (World.block_lt_of_cell? w _ hx139_0)).trans hx139_0; replace p139 := eq_true p139; replace q139 := eq_true q139))
                                        go_ret2
                                        exact ⟨by first | rfl | (simp [errW_none, errW_some] <;> rfl) | (simp [*, errW_none, errW_some] <;> rfl), by repeat (first | (with_reducible first | exact HB.out | apply below_alloc | apply pw_below_drewN | apply below_drew1) | exact HB.out)⟩
                                    · rw [if_neg c47] at H
                                      exact absurd H (by simp)
                                  · rw [if_neg c45] at H
                                    have c45b0 : ((l1.length : Int) == 2) = false := beq_eq_false_iff_ne.mpr c45
                                    have c45b1 : ((l1.length : Int) != 2) = true := bne_iff_ne.mpr c45
                                    by_cases c51 : false = true
                                    · cases c51
                                    · have H1 : (some (0, 100)) = some (r1, r2) := by rw [if_neg (show ¬ (false = true) by decide)] at H; exact H
                                      clear H
                                      have H := H1
                                      clear H1
                                      simp only [Option.some.injEq, Prod.mk.injEq] at H
                                      obtain ⟨rfl, rfl⟩ := H
                                      go_wp2
                                      go_ret2
                                      exact ⟨by first | rfl | (simp [errW_none, errW_some] <;> rfl) | (simp [*, errW_none, errW_some] <;> rfl), by repeat (first | (with_reducible first | exact HB.out | apply below_alloc | apply pw_below_drewN | apply below_drew1) | exact HB.out)⟩
                                · rw [if_neg c44] at H
                                  have c44b0 : (a0.toList == ([110, 117, 108, 108, 105, 102] : List UInt8)) = false := beq_eq_false_iff_ne.mpr c44
                                  have c44b1 : (a0.toList != ([110, 117, 108, 108, 105, 102] : List UInt8)) = true := bne_iff_ne.mpr c44
                                  by_cases c52 : a0.toList = ([99, 111, 110, 99, 97, 116] : List UInt8)
                                  · rw [if_pos c52] at H
                                    have c52b0 : (a0.toList == ([99, 111, 110, 99, 97, 116] : List UInt8)) = true := beq_iff_eq.mpr c52
                                    have c52b1 : (a0.toList != ([99, 111, 110, 99, 97, 116] : List UInt8)) = false := bne_eq_false_iff_eq.mpr c52
                                    clear c52
                                    have H' := Aside0.mk H
                                    clear H
                                    go_wp2
                                    go_loopg [12, 97] kj33 (fun kq v12 v97 w' => ∃ (x12_6 : Bool) (x97_6 : Int), v12 = .bool x12_6 ∧ v97 = .int .i64 x97_6 ∧ Aside0 (funcs_Kind.l1 kq 4 x12_6 l1 (l1.length : Int) x97_6 = some (r1, r2)) ∧ Aside0 (kq ≤ kj33) ∧ Aside0 (Below w.heap.size w w'))
                                    case atStart => exact ⟨(decide ((l1.length : Int) ≥ 1)), (0), (by first | rfl | (simp; done) | (simp [*]; done)), (by first | rfl | (simp; done) | (simp [*]; done)), H', ⟨Nat.le_refl _⟩, ⟨by repeat (first | (with_reducible first | exact HB.out | apply below_alloc | apply pw_below_drewN | apply below_drew1) | exact HB.out)⟩⟩
                                    case round =>
                                      clear H'
                                      try clear c1
                                      try clear p1
                                      try clear q1
                                      try clear hx1
                                      try clear qi1
                                      try clear c2
                                      try clear p2
                                      try clear c3
                                      try clear c3b0
                                      try clear c4
                                      try clear c4b0
                                      try clear c5
                                      try clear c5b0
                                      try clear c6
                                      try clear c6b0
                                      try clear p6
                                      try clear c7
                                      try clear c7b0
                                      try clear c9
                                      try clear c9b0
                                      try clear c9b1
                                      try clear c10
                                      try clear c10b0
                                      try clear c10b1
                                      try clear p12
                                      try clear q12
                                      try clear hx12
                                      try clear qi12
                                      try clear p13
                                      try clear q13
                                      try clear hx13
                                      try clear qi13
                                      try clear c16
                                      try clear c16b0
                                      try clear c16b1
                                      try clear c17
                                      try clear c17b0
                                      try clear c17b1
                                      try clear c22
                                      try clear c22b0
                                      try clear c22b1
                                      try clear c23
                                      try clear c24
                                      try clear c24b0
                                      try clear c24b1
                                      try clear c26
                                      try clear c26b0
                                      try clear c26b1
                                      try clear c27
                                      try clear c27b0
                                      try clear c27b1
                                      try clear c28
                                      try clear c28b0
                                      try clear c28b1
                                      try clear c29
                                      try clear c29b0
                                      try clear c29b1
                                      try clear c30
                                      try clear c31
                                      try clear c32
                                      try clear c32b0
                                      try clear c32b1
                                      try clear c33
                                      try clear c35
                                      try clear c35b0
                                      try clear c35b1
                                      try clear c36
                                      try clear c36b0
                                      try clear c36b1
                                      try clear c37
                                      try clear c39
                                      try clear c40
                                      try clear c40b0
                                      try clear c40b1
                                      try clear c44
                                      try clear c44b0
                                      try clear c44b1
                                      try clear c45
                                      try clear c45b0
                                      try clear c45b1
                                      try clear c47
                                      try clear c47b0
                                      try clear c47b1
                                      try clear c48
                                      try clear c51
                                      try clear c52
                                      try clear c52b0
                                      try clear c52b1
                                      try clear hx123_0
                                      try clear hx124_0
                                      try clear hx129_0
                                      try clear hx134_0
                                      try clear hx139_0
                                      try clear p1
                                      try clear p12
                                      try clear p123
                                      try clear p124
                                      try clear p129
                                      try clear p13
                                      try clear p134
                                      try clear p139
                                      try clear p2
                                      try clear p6
                                      try clear q1
                                      try clear q12
                                      try clear q123
                                      try clear q124
                                      try clear q129
                                      try clear q13
                                      try clear q134
                                      try clear q139
                                      obtain ⟨x12_6, x97_6, rfl, rfl, HA, HK6, HB⟩ := hrel
                                      cases gk with
                                      | zero => exact absurd HA.out (by simp [funcs_Kind.l1])
                                      | succ k6 =>
                                        have H := HA.out
                                        clear HA
                                        simp only [funcs_Kind.l1] at H
                                        by_cases c53 : x97_6 < (l1.length : Int)
                                        · rw [if_pos c53] at H
                                          have c53b0 : decide (x97_6 < (l1.length : Int)) = true := decide_eq_true c53
                                          clear c53
                                          by_cases c54 : 0 ≤ x97_6
                                          · rw [if_pos c54] at H
                                            have c54b0 : decide (0 ≤ x97_6) = true := decide_eq_true c54
                                            clear c54
                                            by_cases c55 : x97_6 < (l1.length : Int)
                                            · rw [if_pos c55] at H
                                              have c55b0 : decide (x97_6 < (l1.length : Int)) = true := decide_eq_true c55
                                              clear c55
                                              by_cases c56 : x12_6 = true
                                              · subst c56
                                                have H1 : ((funcs_fits.f k6 (rd l1 x97_6) (([4] : List Int))).bind fun t144 => (funcs_Kind.l1 k6 4 t144 l1 (l1.length : Int) (wrap64 (x97_6 + 1)))) = some (r1, r2) := by rw [if_pos rfl] at H; exact H
                                                clear H
                                                have H := H1
                                                clear H1
                                                obtain ⟨y141, hy141⟩ : ∃ y_ : List Int, y_ = (([4] : List Int)) := ⟨_, rfl⟩
                                                replace H : ((funcs_fits.f k6 (rd l1 x97_6) y141).bind fun t144 => (funcs_Kind.l1 k6 4 t144 l1 (l1.length : Int) (wrap64 (x97_6 + 1)))) = some (r1, r2) := by first | (rw [hy141]; with_reducible exact H) | (have H2_ := (Option.bind_some _ _).symm.trans H; rw [hy141]; with_reducible exact H2_) | (have H2_ := (Option.bind_some _ _).symm.trans H; with_reducible exact H2_) | with_reducible exact H | (rw [hy141]; exact H) | exact H
                                                have Ny141 := Aside0.mk hy141
                                                clear hy141
                                                replace H := Option.bind_eq_some_iff.mp H
                                                obtain ⟨t144, A570, H⟩ := H
                                                replace H : (funcs_Kind.l1 k6 4 t144 l1 (l1.length : Int) (wrap64 (x97_6 + 1))) = some (r1, r2) := H
                                                have A57 := Aside0.mk A570
                                                clear A570
                                                have H' := Aside0.mk H
                                                clear H
                                                have p140 : 0 ≤ (x97_6 : Int) := of_decide_eq_true (by first | (with_reducible assumption) | assumption)
                                                have q140 : x97_6 < (l1.length : Int) := of_decide_eq_true (by first | (with_reducible assumption) | assumption)
                                                obtain ⟨ad140, e140, hx140_0⟩ := Kd.at_int HR1.out x97_6 p140 q140
                                                cases e140
                                                replace hx140_0 := (HB.out.cell (World.block_lt_of_cell? w _ hx140_0)).trans hx140_0
                                                replace p140 := eq_true p140
                                                replace q140 := eq_true q140
                                                go_wp2_with (first | ((with_reducible refine gate_dst (N := 104) rfl ?_); (try (refine gate_guard (by rfl) ?_; dsimp only)); refine Kd.R_lit (Kd.int .i64) _ 3 ?hg (N := 104) ?hd (xs := ([4] : List Int)) (inner := [.int .i64 4]) (ok := fun _ => True) (okp := fun _ => True) ?hr ?hp (fun _ hk => hk) trivial (Below.refl _ _) (Nat.le_refl _) (by simp) ?_; (case hd => rfl); (case hg => rfl); (case hr => first | (go_simp; done) | (go_simp; rfl)); (case hp => exact (Reps.one (show Kd.M (Kd.int .i64) _ _ _ 4 [.int .i64 4] from rfl) (Reps.none _ _))); intro v142 w58 ho59 hb hg_ hnew_; clear hg_ hnew_; (first | rw [← Ny141.out] at ho59 | (simp only [Int.reduceToNat] at ho59; rw [← Ny141.out] at ho59)); have n0_ := Aside0.mk (Kd.R_lower ho59 (below_size (by repeat (first | (with_reducible first | exact HB.out | apply below_alloc | apply pw_below_drewN | apply below_drew1) | exact HB.out)))); have n1_ := Aside0.mk (below_step (by repeat (first | (with_reducible first | exact HB.out | apply below_alloc | apply pw_below_drewN | apply below_drew1) | exact HB.out)) hb); clear HB; have HO143 := n0_; have HB := n1_; clear n0_ n1_; clear hb ho59; obtain ⟨Ao60, co60, eo60⟩ := Kd.R_slice HO143.out; subst eo60) | (go_at_call 21; (with_reducible refine (funcs_fits.calls k6 (rd l1 x97_6) _ _ y141 t144 _ ?side1 ?side2 A57.out).mono ?_); (case side1 => repeat (first | exact (Kd.R_reads' HO143.out).2.2 | (with_reducible refine Kd.C_alloc ?_ _) | (with_reducible refine Kd.C_drewN ?_ _) | (with_reducible refine Kd.C_drew ?_))); (case side2 => exact (Kd.R_reads' HO143.out).2.1); rintro e w' ⟨rfl, ⟨nd, rfl⟩⟩))
                                                go_roundg k6
                                                case measure => have := HK1.out; have := HJ7.out; have := HJ14.out; have := HJ24.out; have := HJ33.out; have := HK6.out; omega
                                                case rel => exact ⟨(t144), (wrap64 (x97_6 + 1)), (by first | rfl | (simp; done) | (simp [*]; done)), (by first | rfl | (simp; done) | (simp [*]; done)), H', ⟨by have := HK1.out; have := HJ7.out; have := HJ14.out; have := HJ24.out; have := HJ33.out; have := HK6.out; omega⟩, ⟨by repeat (first | (with_reducible first | exact HB.out | apply below_alloc | apply pw_below_drewN | apply below_drew1) | exact HB.out)⟩⟩
                                              · replace c56 := Bool.eq_false_iff.mpr c56
                                                subst c56
                                                have H1 : (funcs_Kind.l1 k6 4 false l1 (l1.length : Int) (wrap64 (x97_6 + 1))) = some (r1, r2) := by rw [if_neg (show ¬ (false = true) by decide)] at H; exact H
                                                clear H
                                                have H := H1
                                                clear H1
                                                have H' := Aside0.mk H
                                                clear H
                                                have p140 : 0 ≤ (x97_6 : Int) := of_decide_eq_true (by first | (with_reducible assumption) | assumption)
                                                have q140 : x97_6 < (l1.length : Int) := of_decide_eq_true (by first | (with_reducible assumption) | assumption)
                                                obtain ⟨ad140, e140, hx140_0⟩ := Kd.at_int HR1.out x97_6 p140 q140
                                                cases e140
                                                replace hx140_0 := (HB.out.cell (World.block_lt_of_cell? w _ hx140_0)).trans hx140_0
                                                replace p140 := eq_true p140
                                                replace q140 := eq_true q140
                                                go_wp2
                                                go_roundg k6
                                                case measure => have := HK1.out; have := HJ7.out; have := HJ14.out; have := HJ24.out; have := HJ33.out; have := HK6.out; omega
                                                case rel => exact ⟨(false), (wrap64 (x97_6 + 1)), (by first | rfl | (simp; done) | (simp [*]; done)), (by first | rfl | (simp; done) | (simp [*]; done)), H', ⟨by have := HK1.out; have := HJ7.out; have := HJ14.out; have := HJ24.out; have := HJ33.out; have := HK6.out; omega⟩, ⟨by repeat (first | (with_reducible first | exact HB.out | apply below_alloc | apply pw_below_drewN | apply below_drew1) | exact HB.out)⟩⟩
                                            · rw [if_neg c55] at H
                                              exact absurd H (by simp)
                                          · rw [if_neg c54] at H
                                            exact absurd H (by simp)
                                        · rw [if_neg c53] at H
                                          have c53b0 : decide (x97_6 < (l1.length : Int)) = false := decide_eq_false c53
                                          clear c53
                                          by_cases c61 : x12_6 = true
                                          · subst c61
                                            have H1 : (some (4, 0)) = some (r1, r2) := by rw [if_pos rfl] at H; exact H
                                            clear H
                                            have H := H1
                                            clear H1
                                            simp only [Option.some.injEq, Prod.mk.injEq] at H
                                            obtain ⟨rfl, rfl⟩ := H
                                            go_wp2
                                            go_ret2
                                            exact ⟨by first | rfl | (simp [errW_none, errW_some] <;> rfl) | (simp [*, errW_none, errW_some] <;> rfl), by repeat (first | (with_reducible first | exact HB.out | apply below_alloc | apply pw_below_drewN | apply below_drew1) | exact HB.out)⟩
                                          · replace c61 := Bool.eq_false_iff.mpr c61
                                            subst c61
                                            have H1 : (some (0, 100)) = some (r1, r2) := by rw [if_neg (show ¬ (false = true) by decide)] at H; exact H
                                            clear H
                                            have H := H1
                                            clear H1
                                            simp only [Option.some.injEq, Prod.mk.injEq] at H
                                            obtain ⟨rfl, rfl⟩ := H
                                            go_wp2
                                            go_ret2
                                            exact ⟨by first | rfl | (simp [errW_none, errW_some] <;> rfl) | (simp [*, errW_none, errW_some] <;> rfl), by repeat (first | (with_reducible first | exact HB.out | apply below_alloc | apply pw_below_drewN | apply below_drew1) | exact HB.out)⟩
                                  · rw [if_neg c52] at H
                                    have c52b0 : (a0.toList == ([99, 111, 110, 99, 97, 116] : List UInt8)) = false := beq_eq_false_iff_ne.mpr c52
                                    have c52b1 : (a0.toList != ([99, 111, 110, 99, 97, 116] : List UInt8)) = true := bne_iff_ne.mpr c52
                                    by_cases c62 : a0.toList = ([108, 101, 110, 103, 116, 104] : List UInt8)
                                    · rw [if_pos c62] at H
                                      have c62b0 : (a0.toList == ([108, 101, 110, 103, 116, 104] : List UInt8)) = true := beq_iff_eq.mpr c62
                                      have c62b1 : (a0.toList != ([108, 101, 110, 103, 116, 104] : List UInt8)) = false := bne_eq_false_iff_eq.mpr c62
                                      clear c62
                                      by_cases c63 : x10_14 = true
                                      · subst c63
                                        have H1 : (some (2, 0)) = some (r1, r2) := by rw [if_pos rfl] at H; exact H
                                        clear H
                                        have H := H1
                                        clear H1
                                        simp only [Option.some.injEq, Prod.mk.injEq] at H
                                        obtain ⟨rfl, rfl⟩ := H
                                        go_wp2
                                        go_ret2
                                        exact ⟨by first | rfl | (simp [errW_none, errW_some] <;> rfl) | (simp [*, errW_none, errW_some] <;> rfl), by repeat (first | (with_reducible first | exact HB.out | apply below_alloc | apply pw_below_drewN | apply below_drew1) | exact HB.out)⟩
                                      · replace c63 := Bool.eq_false_iff.mpr c63
                                        subst c63
                                        have H1 : (some (0, 100)) = some (r1, r2) := by rw [if_neg (show ¬ (false = true) by decide)] at H; exact H
                                        clear H
                                        have H := H1
                                        clear H1
                                        simp only [Option.some.injEq, Prod.mk.injEq] at H
                                        obtain ⟨rfl, rfl⟩ := H
                                        go_wp2
                                        go_ret2
                                        exact ⟨by first | rfl | (simp [errW_none, errW_some] <;> rfl) | (simp [*, errW_none, errW_some] <;> rfl), by repeat (first | (with_reducible first | exact HB.out | apply below_alloc | apply pw_below_drewN | apply below_drew1) | exact HB.out)⟩
                                    · rw [if_neg c62] at H
                                      have c62b0 : (a0.toList == ([108, 101, 110, 103, 116, 104] : List UInt8)) = false := beq_eq_false_iff_ne.mpr c62
                                      have c62b1 : (a0.toList != ([108, 101, 110, 103, 116, 104] : List UInt8)) = true := bne_iff_ne.mpr c62
                                      have HC64 := Aside0.mk H
                                      clear H
                                      go_upto_if 111 with (fail)
                                      go_cut [111] (fun v111 wc => ∃ (kq : Nat) (x111_63 : Bool), v111 = .bool x111_63 ∧ Aside0 (funcs_Kind.j6 kq l1 (l1.length : Int) x10_14 0 false a0 x111_63 = some (r1, r2)) ∧ Aside0 (kq ≤ kj33) ∧ Aside0 (Below w.heap.size w wc))
                                      case first =>
                                        have H := HC64.out
                                        clear HC64
                                        by_cases c65 : a0.toList = ([108, 111, 119, 101, 114] : List UInt8)
                                        · rw [if_pos c65] at H
                                          have c65b0 : (a0.toList == ([108, 111, 119, 101, 114] : List UInt8)) = true := beq_iff_eq.mpr c65
                                          have c65b1 : (a0.toList != ([108, 111, 119, 101, 114] : List UInt8)) = false := bne_eq_false_iff_eq.mpr c65
                                          clear c65
                                          (first | rw [c65b0] | (simp only [i64_w, i32_w]; rw [c65b0]) | skip)
                                          have H' := Aside0.mk H
                                          clear H
                                          go_wp2
                                          go_meet
                                          case rel => exact ⟨_, ((a0.toList == ([108, 111, 119, 101, 114] : List UInt8))), (by first | rfl | (simp; done) | (simp [*]; done)), H', ⟨by have := HK1.out; have := HJ7.out; have := HJ14.out; have := HJ24.out; have := HJ33.out; first | omega | exact Nat.le_refl _⟩, ⟨by repeat (first | (with_reducible first | exact HB.out | apply below_alloc | apply pw_below_drewN | apply below_drew1) | exact HB.out)⟩⟩
                                        · rw [if_neg c65] at H
                                          have c65b0 : (a0.toList == ([108, 111, 119, 101, 114] : List UInt8)) = false := beq_eq_false_iff_ne.mpr c65
                                          have c65b1 : (a0.toList != ([108, 111, 119, 101, 114] : List UInt8)) = true := bne_iff_ne.mpr c65
                                          (first | rw [c65b0] | (simp only [i64_w, i32_w]; rw [c65b0]) | skip)
                                          by_cases c66 : a0.toList = ([117, 112, 112, 101, 114] : List UInt8)
                                          · rw [if_pos c66] at H
                                            have c66b0 : (a0.toList == ([117, 112, 112, 101, 114] : List UInt8)) = true := beq_iff_eq.mpr c66
                                            have c66b1 : (a0.toList != ([117, 112, 112, 101, 114] : List UInt8)) = false := bne_eq_false_iff_eq.mpr c66
                                            clear c66
                                            have H' := Aside0.mk H
                                            clear H
                                            go_wp2
                                            go_meet
                                            case rel => exact ⟨_, ((a0.toList == ([117, 112, 112, 101, 114] : List UInt8))), (by first | rfl | (simp; done) | (simp [*]; done)), H', ⟨by have := HK1.out; have := HJ7.out; have := HJ14.out; have := HJ24.out; have := HJ33.out; first | omega | exact Nat.le_refl _⟩, ⟨by repeat (first | (with_reducible first | exact HB.out | apply below_alloc | apply pw_below_drewN | apply below_drew1) | exact HB.out)⟩⟩
                                          · rw [if_neg c66] at H
                                            have c66b0 : (a0.toList == ([117, 112, 112, 101, 114] : List UInt8)) = false := beq_eq_false_iff_ne.mpr c66
                                            have c66b1 : (a0.toList != ([117, 112, 112, 101, 114] : List UInt8)) = true := bne_iff_ne.mpr c66
                                            have H' := Aside0.mk H
                                            clear H
                                            go_wp2
                                            go_meet
                                            case rel => exact ⟨_, ((a0.toList == ([116, 114, 105, 109] : List UInt8))), (by first | rfl | (simp; done) | (simp [*]; done)), H', ⟨by have := HK1.out; have := HJ7.out; have := HJ14.out; have := HJ24.out; have := HJ33.out; first | omega | exact Nat.le_refl _⟩, ⟨by repeat (first | (with_reducible first | exact HB.out | apply below_alloc | apply pw_below_drewN | apply below_drew1) | exact HB.out)⟩⟩
                                      case rest =>
                                        clear HC64
                                        try clear c1
                                        try clear p1
                                        try clear q1
                                        try clear hx1
                                        try clear qi1
                                        try clear c2
                                        try clear p2
                                        try clear c3
                                        try clear c3b0
                                        try clear c4
                                        try clear c4b0
                                        try clear c5
                                        try clear c5b0
                                        try clear c6
                                        try clear c6b0
                                        try clear p6
                                        try clear c7
                                        try clear c7b0
                                        try clear c9
                                        try clear c9b0
                                        try clear c9b1
                                        try clear c10
                                        try clear c10b0
                                        try clear c10b1
                                        try clear p12
                                        try clear q12
                                        try clear hx12
                                        try clear qi12
                                        try clear p13
                                        try clear q13
                                        try clear hx13
                                        try clear qi13
                                        try clear p14
                                        try clear q14
                                        try clear hx14
                                        try clear c16
                                        try clear c16b0
                                        try clear c16b1
                                        try clear c17
                                        try clear c17b0
                                        try clear c17b1
                                        try clear c22
                                        try clear c22b0
                                        try clear c22b1
                                        try clear c23
                                        try clear c24
                                        try clear c24b0
                                        try clear c24b1
                                        try clear c26
                                        try clear c26b0
                                        try clear c26b1
                                        try clear c27
                                        try clear c27b0
                                        try clear c27b1
                                        try clear c28
                                        try clear c28b0
                                        try clear c28b1
                                        try clear c29
                                        try clear c29b0
                                        try clear c29b1
                                        try clear c30
                                        try clear c31
                                        try clear c32
                                        try clear c32b0
                                        try clear c32b1
                                        try clear c33
                                        try clear c35
                                        try clear c35b0
                                        try clear c35b1
                                        try clear c36
                                        try clear c36b0
                                        try clear c36b1
                                        try clear c37
                                        try clear c39
                                        try clear c40
                                        try clear c40b0
                                        try clear c40b1
                                        try clear c44
                                        try clear c44b0
                                        try clear c44b1
                                        try clear c45
                                        try clear c45b0
                                        try clear c45b1
                                        try clear c47
                                        try clear c47b0
                                        try clear c47b1
                                        try clear c48
                                        try clear c51
                                        try clear c52
                                        try clear c52b0
                                        try clear c52b1
                                        try clear c53
                                        try clear c53b0
                                        try clear c54
                                        try clear c54b0
                                        try clear c55
                                        try clear c55b0
                                        try clear c56
                                        try clear c61
                                        try clear c62
                                        try clear c62b0
                                        try clear c62b1
                                        try clear c63
                                        try clear p64
                                        try clear c65
                                        try clear c65b0
                                        try clear c65b1
                                        try clear c66
                                        try clear c66b0
                                        try clear c66b1
                                        try clear hx123_0
                                        try clear hx124_0
                                        try clear hx129_0
                                        try clear hx134_0
                                        try clear hx139_0
                                        try clear hx140_0
                                        try clear p1
                                        try clear p12
                                        try clear p123
                                        try clear p124
                                        try clear p129
                                        try clear p13
                                        try clear p134
                                        try clear p139
                                        try clear p140
                                        try clear p2
                                        try clear p6
                                        try clear q1
                                        try clear q12
                                        try clear q123
                                        try clear q124
                                        try clear q129
                                        try clear q13
                                        try clear q134
                                        try clear q139
                                        try clear q140
                                        obtain ⟨kq, x111_63, rfl, HA, HJ63, HB⟩ := hcut
                                        cases kq with
                                        | zero => exact absurd HA.out (by simp [funcs_Kind.j6])
                                        | succ kj63 =>
                                          have H := HA.out
                                          clear HA
                                          simp only [funcs_Kind.j6] at H
                                          by_cases c67 : x111_63 = true
                                          · subst c67
                                            have H1 : (if x10_14 = true then (some (4, 0)) else (some (0, 100))) = some (r1, r2) := by rw [if_pos rfl] at H; exact H
                                            clear H
                                            have H := H1
                                            clear H1
                                            by_cases c68 : x10_14 = true
                                            · subst c68
                                              have H1 : (some (4, 0)) = some (r1, r2) := by rw [if_pos rfl] at H; exact H
                                              clear H
                                              have H := H1
                                              clear H1
                                              simp only [Option.some.injEq, Prod.mk.injEq] at H
                                              obtain ⟨rfl, rfl⟩ := H
                                              go_wp2
                                              go_ret2
                                              exact ⟨by first | rfl | (simp [errW_none, errW_some] <;> rfl) | (simp [*, errW_none, errW_some] <;> rfl), by repeat (first | (with_reducible first | exact HB.out | apply below_alloc | apply pw_below_drewN | apply below_drew1) | exact HB.out)⟩
                                            · replace c68 := Bool.eq_false_iff.mpr c68
                                              subst c68
                                              have H1 : (some (0, 100)) = some (r1, r2) := by rw [if_neg (show ¬ (false = true) by decide)] at H; exact H
                                              clear H
                                              have H := H1
                                              clear H1
                                              simp only [Option.some.injEq, Prod.mk.injEq] at H
                                              obtain ⟨rfl, rfl⟩ := H
                                              go_wp2
                                              go_ret2
                                              exact ⟨by first | rfl | (simp [errW_none, errW_some] <;> rfl) | (simp [*, errW_none, errW_some] <;> rfl), by repeat (first | (with_reducible first | exact HB.out | apply below_alloc | apply pw_below_drewN | apply below_drew1) | exact HB.out)⟩
                                          · replace c67 := Bool.eq_false_iff.mpr c67
                                            subst c67
                                            have H1 : (if a0.toList = ([116, 111, 116, 101, 120, 116] : List UInt8) then (if (l1.length : Int) = 1 then (some (4, 0)) else (some (0, 100))) else (if a0.toList = ([115, 117, 98, 115, 116, 114] : List UInt8) then (if (l1.length : Int) = 3 then (if 0 < (l1.length : Int) then ((funcs_fits.f kj63 (rd l1 0) (([4] : List Int))).bind fun t149 => (if t149 = true then (if 1 < (l1.length : Int) then ((funcs_fits.f kj63 (rd l1 1) (([2] : List Int))).bind fun t154 => (if t154 = true then (if 2 < (l1.length : Int) then ((funcs_fits.f kj63 (rd l1 2) (([2] : List Int))).bind fun t159 => (if t159 = true then (some (4, 0)) else (some (0, 100)))) else (none)) else (some (0, 100)))) else (none)) else (some (0, 100)))) else (none)) else (some (0, 100))) else (if false = true then (some (0, 0)) else (some (0, 100))))) = some (r1, r2) := by rw [if_neg (show ¬ (false = true) by decide)] at H; exact H
                                            clear H
                                            have H := H1
                                            clear H1
                                            by_cases c69 : a0.toList = ([116, 111, 116, 101, 120, 116] : List UInt8)
                                            · rw [if_pos c69] at H
                                              have c69b0 : (a0.toList == ([116, 111, 116, 101, 120, 116] : List UInt8)) = true := beq_iff_eq.mpr c69
                                              have c69b1 : (a0.toList != ([116, 111, 116, 101, 120, 116] : List UInt8)) = false := bne_eq_false_iff_eq.mpr c69
                                              clear c69
                                              by_cases c70 : (l1.length : Int) = 1
                                              · rw [if_pos c70] at H
                                                have c70b0 : ((l1.length : Int) == 1) = true := beq_iff_eq.mpr c70
                                                have c70b1 : ((l1.length : Int) != 1) = false := bne_eq_false_iff_eq.mpr c70
                                                clear c70
                                                simp only [Option.some.injEq, Prod.mk.injEq] at H
                                                obtain ⟨rfl, rfl⟩ := H
                                                go_wp2
                                                go_ret2
                                                exact ⟨by first | rfl | (simp [errW_none, errW_some] <;> rfl) | (simp [*, errW_none, errW_some] <;> rfl), by repeat (first | (with_reducible first | exact HB.out | apply below_alloc | apply pw_below_drewN | apply below_drew1) | exact HB.out)⟩
                                              · rw [if_neg c70] at H
                                                have c70b0 : ((l1.length : Int) == 1) = false := beq_eq_false_iff_ne.mpr c70
                                                have c70b1 : ((l1.length : Int) != 1) = true := bne_iff_ne.mpr c70
                                                simp only [Option.some.injEq, Prod.mk.injEq] at H
                                                obtain ⟨rfl, rfl⟩ := H
                                                go_wp2
                                                go_ret2
                                                exact ⟨by first | rfl | (simp [errW_none, errW_some] <;> rfl) | (simp [*, errW_none, errW_some] <;> rfl), by repeat (first | (with_reducible first | exact HB.out | apply below_alloc | apply pw_below_drewN | apply below_drew1) | exact HB.out)⟩
                                            · rw [if_neg c69] at H
                                              have c69b0 : (a0.toList == ([116, 111, 116, 101, 120, 116] : List UInt8)) = false := beq_eq_false_iff_ne.mpr c69
                                              have c69b1 : (a0.toList != ([116, 111, 116, 101, 120, 116] : List UInt8)) = true := bne_iff_ne.mpr c69
                                              by_cases c71 : a0.toList = ([115, 117, 98, 115, 116, 114] : List UInt8)
                                              · rw [if_pos c71] at H
                                                have c71b0 : (a0.toList == ([115, 117, 98, 115, 116, 114] : List UInt8)) = true := beq_iff_eq.mpr c71
                                                have c71b1 : (a0.toList != ([115, 117, 98, 115, 116, 114] : List UInt8)) = false := bne_eq_false_iff_eq.mpr c71
                                                clear c71
                                                by_cases c72 : (l1.length : Int) = 3
                                                · rw [if_pos c72] at H
                                                  have c72b0 : ((l1.length : Int) == 3) = true := beq_iff_eq.mpr c72
                                                  have c72b1 : ((l1.length : Int) != 3) = false := bne_eq_false_iff_eq.mpr c72
                                                  clear c72
                                                  by_cases c73 : 0 < (l1.length : Int)
                                                  · rw [if_pos c73] at H
                                                    have c73b0 : decide (0 < (l1.length : Int)) = true := decide_eq_true c73
                                                    have c73b1 : decide (0 < l1.length) = true := decide_eq_true (by omega)
                                                    clear c73
                                                    obtain ⟨y146, hy146⟩ : ∃ y_ : List Int, y_ = (([4] : List Int)) := ⟨_, rfl⟩
                                                    replace H : ((funcs_fits.f kj63 (rd l1 0) y146).bind fun t149 => (if t149 = true then (if 1 < (l1.length : Int) then ((funcs_fits.f kj63 (rd l1 1) (([2] : List Int))).bind fun t154 => (if t154 = true then (if 2 < (l1.length : Int) then ((funcs_fits.f kj63 (rd l1 2) (([2] : List Int))).bind fun t159 => (if t159 = true then (some (4, 0)) else (some (0, 100)))) else (none)) else (some (0, 100)))) else (none)) else (some (0, 100)))) = some (r1, r2) := by first | (rw [hy146]; with_reducible exact H) | (have H2_ := (Option.bind_some _ _).symm.trans H; rw [hy146]; with_reducible exact H2_) | (have H2_ := (Option.bind_some _ _).symm.trans H; with_reducible exact H2_) | with_reducible exact H | (rw [hy146]; exact H) | exact H
                                                    have Ny146 := Aside0.mk hy146
                                                    clear hy146
                                                    replace H := Option.bind_eq_some_iff.mp H
                                                    obtain ⟨t149, A740, H⟩ := H
                                                    replace H : (if t149 = true then (if 1 < (l1.length : Int) then ((funcs_fits.f kj63 (rd l1 1) (([2] : List Int))).bind fun t154 => (if t154 = true then (if 2 < (l1.length : Int) then ((funcs_fits.f kj63 (rd l1 2) (([2] : List Int))).bind fun t159 => (if t159 = true then (some (4, 0)) else (some (0, 100)))) else (none)) else (some (0, 100)))) else (none)) else (some (0, 100))) = some (r1, r2) := H
                                                    have A74 := Aside0.mk A740
                                                    clear A740
                                                    by_cases c75 : t149 = true
                                                    · subst c75
                                                      have H1 : (if 1 < (l1.length : Int) then ((funcs_fits.f kj63 (rd l1 1) (([2] : List Int))).bind fun t154 => (if t154 = true then (if 2 < (l1.length : Int) then ((funcs_fits.f kj63 (rd l1 2) (([2] : List Int))).bind fun t159 => (if t159 = true then (some (4, 0)) else (some (0, 100)))) else (none)) else (some (0, 100)))) else (none)) = some (r1, r2) := by rw [if_pos rfl] at H; exact H
                                                      clear H
                                                      have H := H1
                                                      clear H1
                                                      by_cases c76 : 1 < (l1.length : Int)
                                                      · rw [if_pos c76] at H
                                                        have c76b0 : decide (1 < (l1.length : Int)) = true := decide_eq_true c76
                                                        have c76b1 : decide (1 < l1.length) = true := decide_eq_true (by omega)
                                                        clear c76
                                                        obtain ⟨y151, hy151⟩ : ∃ y_ : List Int, y_ = (([2] : List Int)) := ⟨_, rfl⟩
                                                        replace H : ((funcs_fits.f kj63 (rd l1 1) y151).bind fun t154 => (if t154 = true then (if 2 < (l1.length : Int) then ((funcs_fits.f kj63 (rd l1 2) (([2] : List Int))).bind fun t159 => (if t159 = true then (some (4, 0)) else (some (0, 100)))) else (none)) else (some (0, 100)))) = some (r1, r2) := by first | (rw [hy151]; with_reducible exact H) | (have H2_ := (Option.bind_some _ _).symm.trans H; rw [hy151]; with_reducible exact H2_) | (have H2_ := (Option.bind_some _ _).symm.trans H; with_reducible exact H2_) | with_reducible exact H | (rw [hy151]; exact H) | exact H
                                                        have Ny151 := Aside0.mk hy151
                                                        clear hy151
                                                        replace H := Option.bind_eq_some_iff.mp H
                                                        obtain ⟨t154, A770, H⟩ := H
                                                        replace H : (if t154 = true then (if 2 < (l1.length : Int) then ((funcs_fits.f kj63 (rd l1 2) (([2] : List Int))).bind fun t159 => (if t159 = true then (some (4, 0)) else (some (0, 100)))) else (none)) else (some (0, 100))) = some (r1, r2) := H
                                                        have A77 := Aside0.mk A770
                                                        clear A770
                                                        by_cases c78 : t154 = true
                                                        · subst c78
                                                          have H1 : (if 2 < (l1.length : Int) then ((funcs_fits.f kj63 (rd l1 2) (([2] : List Int))).bind fun t159 => (if t159 = true then (some (4, 0)) else (some (0, 100)))) else (none)) = some (r1, r2) := by rw [if_pos rfl] at H; exact H
                                                          clear H
                                                          have H := H1
                                                          clear H1
                                                          by_cases c79 : 2 < (l1.length : Int)
                                                          · rw [if_pos c79] at H
                                                            have c79b0 : decide (2 < (l1.length : Int)) = true := decide_eq_true c79
                                                            have c79b1 : decide (2 < l1.length) = true := decide_eq_true (by omega)
                                                            clear c79
                                                            obtain ⟨y156, hy156⟩ : ∃ y_ : List Int, y_ = (([2] : List Int)) := ⟨_, rfl⟩
                                                            replace H : ((funcs_fits.f kj63 (rd l1 2) y156).bind fun t159 => (if t159 = true then (some (4, 0)) else (some (0, 100)))) = some (r1, r2) := by first | (rw [hy156]; with_reducible exact H) | (have H2_ := (Option.bind_some _ _).symm.trans H; rw [hy156]; with_reducible exact H2_) | (have H2_ := (Option.bind_some _ _).symm.trans H; with_reducible exact H2_) | with_reducible exact H | (rw [hy156]; exact H) | exact H
                                                            have Ny156 := Aside0.mk hy156
                                                            clear hy156
                                                            replace H := Option.bind_eq_some_iff.mp H
                                                            obtain ⟨t159, A800, H⟩ := H
                                                            replace H : (if t159 = true then (some (4, 0)) else (some (0, 100))) = some (r1, r2) := H
                                                            have A80 := Aside0.mk A800
                                                            clear A800
                                                            by_cases c81 : t159 = true
                                                            · subst c81
                                                              have H1 : (some (4, 0)) = some (r1, r2) := by rw [if_pos rfl] at H; exact H
                                                              clear H
                                                              have H := H1
                                                              clear H1
                                                              simp only [Option.some.injEq, Prod.mk.injEq] at H
                                                              obtain ⟨rfl, rfl⟩ := H
                                                              have p145 : 0 ≤ (0 : Int) := (by omega)
                                                              have q145 : 0 < (l1.length : Int) := of_decide_eq_true (by first | (with_reducible assumption) | assumption)
                                                              obtain ⟨ad145, e145, hx145_0⟩ := Kd.at_int HR1.out 0 p145 q145
                                                              cases e145
                                                              have qi145 : (0 < l1.length) = True := eq_true (by omega)
                                                              (try rw [show ((0 : Int)).toNat = 0 from rfl] at hx145_0)
                                                              (try rw [Addr.add_zero'] at hx145_0)
                                                              replace hx145_0 := (HB.out.cell (World.block_lt_of_cell? w _ hx145_0)).trans hx145_0
                                                              replace p145 := eq_true p145
                                                              replace q145 := eq_true q145
                                                              go_wp2_with (first | ((with_reducible refine gate_dst (N := 128) rfl ?_); (try (refine gate_guard (by rfl) ?_; dsimp only)); refine Kd.R_lit (Kd.int .i64) _ 3 ?hg (N := 128) ?hd (xs := ([4] : List Int)) (inner := [.int .i64 4]) (ok := fun _ => True) (okp := fun _ => True) ?hr ?hp (fun _ hk => hk) trivial (Below.refl _ _) (Nat.le_refl _) (by simp) ?_; (case hd => rfl); (case hg => rfl); (case hr => first | (go_simp; done) | (go_simp; rfl)); (case hp => exact (Reps.one (show Kd.M (Kd.int .i64) _ _ _ 4 [.int .i64 4] from rfl) (Reps.none _ _))); intro v147 w82 ho83 hb hg_ hnew_; clear hg_ hnew_; (first | rw [← Ny146.out] at ho83 | (simp only [Int.reduceToNat] at ho83; rw [← Ny146.out] at ho83)); have n0_ := Aside0.mk (Kd.R_lower ho83 (below_size (by repeat (first | (with_reducible first | exact HB.out | apply below_alloc | apply pw_below_drewN | apply below_drew1) | exact HB.out)))); have n1_ := Aside0.mk (below_step (by repeat (first | (with_reducible first | exact HB.out | apply below_alloc | apply pw_below_drewN | apply below_drew1) | exact HB.out)) hb); clear HB; have HO148 := n0_; have HB := n1_; clear n0_ n1_; clear hb ho83; obtain ⟨Ao84, co84, eo84⟩ := Kd.R_slice HO148.out; subst eo84) | (go_at_call 21; (with_reducible refine (funcs_fits.calls kj63 (rd l1 0) _ _ y146 true _ ?side1 ?side2 A74.out).mono ?_); (case side1 => repeat (first | exact (Kd.R_reads' HO148.out).2.2 | (with_reducible refine Kd.C_alloc ?_ _) | (with_reducible refine Kd.C_drewN ?_ _) | (with_reducible refine Kd.C_drew ?_))); (case side2 => exact (Kd.R_reads' HO148.out).2.1); rintro e w' ⟨rfl, ⟨nd, rfl⟩⟩; have p150 : 0 ≤ (1 : Int) := (by omega); have q150 : 1 < (l1.length : Int) := of_decide_eq_true (by first | (with_reducible assumption) | assumption); obtain ⟨ad150, e150, hx150_0⟩ := Kd.at_int HR1.out 1 p150 q150; obtain rfl : ad145 = ad150 := (by injection e150); (try simp only [show (1 : Int).toNat = 1 from rfl, Nat.reduceMul, Nat.reduceEqDiff, Go.Addr.add, ↓reduceIte] at hx150_0); have qi150 : (1 < l1.length) = True := eq_true (by omega); (try rw [show ((1 : Int)).toNat = 1 from rfl] at hx150_0); replace hx150_0 := (HB.out.cell (World.block_lt_of_cell? w _ hx150_0)).trans hx150_0; replace p150 := eq_true p150; replace q150 := eq_true q150) | ((with_reducible refine gate_dst (N := 135) rfl ?_); (try (refine gate_guard (by rfl) ?_; dsimp only)); refine Kd.R_lit (Kd.int .i64) _ 3 ?hg (N := 135) ?hd (xs := ([2] : List Int)) (inner := [.int .i64 2]) (ok := fun _ => True) (okp := fun _ => True) ?hr ?hp (fun _ hk => hk) trivial (Below.refl _ _) (Nat.le_refl _) (by simp) ?_; (case hd => rfl); (case hg => rfl); (case hr => first | (go_simp; done) | (go_simp; rfl)); (case hp => exact (Reps.one (show Kd.M (Kd.int .i64) _ _ _ 2 [.int .i64 2] from rfl) (Reps.none _ _))); intro v152 w85 ho86 hb hg_ hnew_; clear hg_ hnew_; (first | rw [← Ny151.out] at ho86 | (simp only [Int.reduceToNat] at ho86; rw [← Ny151.out] at ho86)); have n0_ := Aside0.mk (Kd.R_elder' (by (with_reducible repeat (first | apply Kd.R_alloc | apply Kd.R_drewN | apply Kd.R_drew)); exact HO148.out) (Kd.R_base ho86) hb); have n1_ := Aside0.mk (Kd.R_lower (Kd.R_new' ho86 (Kd.R_lt (by (with_reducible repeat (first | apply Kd.R_alloc | apply Kd.R_drewN | apply Kd.R_drew)); exact HO148.out))) (below_size (by repeat (first | (with_reducible first | exact HB.out | apply below_alloc | apply pw_below_drewN | apply below_drew1) | exact HB.out)))); have n2_ := Aside0.mk (below_step (by repeat (first | (with_reducible first | exact HB.out | apply below_alloc | apply pw_below_drewN | apply below_drew1) | exact HB.out)) hb); clear HO148; clear HB; have HO148 := n0_; have HO153 := n1_; have HB := n2_; clear n0_ n1_ n2_; clear hb ho86; obtain ⟨Ao87, co87, eo87⟩ := Kd.R_slice HO153.out; subst eo87) | (go_at_call 21; (with_reducible refine (funcs_fits.calls kj63 (rd l1 1) _ _ y151 true _ ?side1 ?side2 A77.out).mono ?_); (case side1 => repeat (first | exact (Kd.R_reads' HO153.out).2.2 | (with_reducible refine Kd.C_alloc ?_ _) | (with_reducible refine Kd.C_drewN ?_ _) | (with_reducible refine Kd.C_drew ?_))); (case side2 => exact (Kd.R_reads' HO153.out).2.1); rintro e w' ⟨rfl, ⟨nd, rfl⟩⟩; have p155 : 0 ≤ (2 : Int) := (by omega); have q155 : 2 < (l1.length : Int) := of_decide_eq_true (by first | (with_reducible assumption) | assumption); obtain ⟨ad155, e155, hx155_0⟩ := Kd.at_int HR1.out 2 p155 q155; obtain rfl : ad145 = ad155 := (by injection e155); (try simp only [show (2 : Int).toNat = 2 from rfl, Nat.reduceMul, Nat.reduceEqDiff, Go.Addr.add, ↓reduceIte] at hx155_0); have qi155 : (2 < l1.length) = True := eq_true (by omega); (try rw [show ((2 : Int)).toNat = 2 from rfl] at hx155_0); replace hx155_0 := (HB.out.cell (World.block_lt_of_cell? w _ hx155_0)).trans hx155_0; replace p155 := eq_true p155; replace q155 := eq_true q155) | ((with_reducible refine gate_dst (N := 142) rfl ?_); (try (refine gate_guard (by rfl) ?_; dsimp only)); refine Kd.R_lit (Kd.int .i64) _ 3 ?hg (N := 142) ?hd (xs := ([2] : List Int)) (inner := [.int .i64 2]) (ok := fun _ => True) (okp := fun _ => True) ?hr ?hp (fun _ hk => hk) trivial (Below.refl _ _) (Nat.le_refl _) (by simp) ?_; (case hd => rfl); (case hg => rfl); (case hr => first | (go_simp; done) | (go_simp; rfl)); (case hp => exact (Reps.one (show Kd.M (Kd.int .i64) _ _ _ 2 [.int .i64 2] from rfl) (Reps.none _ _))); intro v157 w88 ho89 hb hg_ hnew_; clear hg_ hnew_; (first | rw [← Ny156.out] at ho89 | (simp only [Int.reduceToNat] at ho89; rw [← Ny156.out] at ho89)); have n0_ := Aside0.mk (Kd.R_elder' (by (with_reducible repeat (first | apply Kd.R_alloc | apply Kd.R_drewN | apply Kd.R_drew)); exact HO148.out) (Kd.R_base ho89) hb); have n1_ := Aside0.mk (Kd.R_elder' (by (with_reducible repeat (first | apply Kd.R_alloc | apply Kd.R_drewN | apply Kd.R_drew)); exact HO153.out) (Kd.R_base ho89) hb); have n2_ := Aside0.mk (Kd.R_lower (Kd.R_new' (Kd.R_new' ho89 (Kd.R_lt (by (with_reducible repeat (first | apply Kd.R_alloc | apply Kd.R_drewN | apply Kd.R_drew)); exact HO148.out))) (Kd.R_lt (by (with_reducible repeat (first | apply Kd.R_alloc | apply Kd.R_drewN | apply Kd.R_drew)); exact HO153.out))) (below_size (by repeat (first | (with_reducible first | exact HB.out | apply below_alloc | apply pw_below_drewN | apply below_drew1) | exact HB.out)))); have n3_ := Aside0.mk (below_step (by repeat (first | (with_reducible first | exact HB.out | apply below_alloc | apply pw_below_drewN | apply below_drew1) | exact HB.out)) hb); clear HO148; clear HO153; clear HB; have HO148 := n0_; have HO153 := n1_; have HO158 := n2_; have HB := n3_; clear n0_ n1_ n2_ n3_; clear hb ho89; obtain ⟨Ao90, co90, eo90⟩ := Kd.R_slice HO158.out; subst eo90) | (go_at_call 21; (with_reducible refine (funcs_fits.calls kj63 (rd l1 2) _ _ y156 true _ ?side1 ?side2 A80.out).mono ?_); (case side1 => repeat (first | exact (Kd.R_reads' HO158.out).2.2 | (with_reducible refine Kd.C_alloc ?_ _) | (with_reducible refine Kd.C_drewN ?_ _) | (with_reducible refine Kd.C_drew ?_))); (case side2 => exact (Kd.R_reads' HO158.out).2.1); rintro e w' ⟨rfl, ⟨nd, rfl⟩⟩))
                                                              go_ret2
                                                              exact ⟨by first | rfl | (simp [errW_none, errW_some] <;> rfl) | (simp [*, errW_none, errW_some] <;> rfl), by repeat (first | (with_reducible first | exact HB.out | apply below_alloc | apply pw_below_drewN | apply below_drew1) | exact HB.out)⟩
                                                            · replace c81 := Bool.eq_false_iff.mpr c81
                                                              subst c81
                                                              have H1 : (some (0, 100)) = some (r1, r2) := by rw [if_neg (show ¬ (false = true) by decide)] at H; exact H
                                                              clear H
                                                              have H := H1
                                                              clear H1
                                                              simp only [Option.some.injEq, Prod.mk.injEq] at H
                                                              obtain ⟨rfl, rfl⟩ := H
                                                              have p145 : 0 ≤ (0 : Int) := (by omega)
                                                              have q145 : 0 < (l1.length : Int) := of_decide_eq_true (by first | (with_reducible assumption) | assumption)
                                                              obtain ⟨ad145, e145, hx145_0⟩ := Kd.at_int HR1.out 0 p145 q145
                                                              cases e145
                                                              have qi145 : (0 < l1.length) = True := eq_true (by omega)
                                                              (try rw [show ((0 : Int)).toNat = 0 from rfl] at hx145_0)
                                                              (try rw [Addr.add_zero'] at hx145_0)
                                                              replace hx145_0 := (HB.out.cell (World.block_lt_of_cell? w _ hx145_0)).trans hx145_0
                                                              replace p145 := eq_true p145
                                                              replace q145 := eq_true q145
                                                              go_wp2_with (first | ((with_reducible refine gate_dst (N := 128) rfl ?_); (try (refine gate_guard (by rfl) ?_; dsimp only)); refine Kd.R_lit (Kd.int .i64) _ 3 ?hg (N := 128) ?hd (xs := ([4] : List Int)) (inner := [.int .i64 4]) (ok := fun _ => True) (okp := fun _ => True) ?hr ?hp (fun _ hk => hk) trivial (Below.refl _ _) (Nat.le_refl _) (by simp) ?_; (case hd => rfl); (case hg => rfl); (case hr => first | (go_simp; done) | (go_simp; rfl)); (case hp => exact (Reps.one (show Kd.M (Kd.int .i64) _ _ _ 4 [.int .i64 4] from rfl) (Reps.none _ _))); intro v147 w91 ho92 hb hg_ hnew_; clear hg_ hnew_; (first | rw [← Ny146.out] at ho92 | (simp only [Int.reduceToNat] at ho92; rw [← Ny146.out] at ho92)); have n0_ := Aside0.mk (Kd.R_lower ho92 (below_size (by repeat (first | (with_reducible first | exact HB.out | apply below_alloc | apply pw_below_drewN | apply below_drew1) | exact HB.out)))); have n1_ := Aside0.mk (below_step (by repeat (first | (with_reducible first | exact HB.out | apply below_alloc | apply pw_below_drewN | apply below_drew1) | exact HB.out)) hb); clear HB; have HO148 := n0_; have HB := n1_; clear n0_ n1_; clear hb ho92; obtain ⟨Ao93, co93, eo93⟩ := Kd.R_slice HO148.out; subst eo93) | (go_at_call 21; (with_reducible refine (funcs_fits.calls kj63 (rd l1 0) _ _ y146 true _ ?side1 ?side2 A74.out).mono ?_); (case side1 => repeat (first | exact (Kd.R_reads' HO148.out).2.2 | (with_reducible refine Kd.C_alloc ?_ _) | (with_reducible refine Kd.C_drewN ?_ _) | (with_reducible refine Kd.C_drew ?_))); (case side2 => exact (Kd.R_reads' HO148.out).2.1); rintro e w' ⟨rfl, ⟨nd, rfl⟩⟩; have p150 : 0 ≤ (1 : Int) := (by omega); have q150 : 1 < (l1.length : Int) := of_decide_eq_true (by first | (with_reducible assumption) | assumption); obtain ⟨ad150, e150, hx150_0⟩ := Kd.at_int HR1.out 1 p150 q150; obtain rfl : ad145 = ad150 := (by injection e150); (try simp only [show (1 : Int).toNat = 1 from rfl, Nat.reduceMul, Nat.reduceEqDiff, Go.Addr.add, ↓reduceIte] at hx150_0); have qi150 : (1 < l1.length) = True := eq_true (by omega); (try rw [show ((1 : Int)).toNat = 1 from rfl] at hx150_0); replace hx150_0 := (HB.out.cell (World.block_lt_of_cell? w _ hx150_0)).trans hx150_0; replace p150 := eq_true p150; replace q150 := eq_true q150) | ((with_reducible refine gate_dst (N := 135) rfl ?_); (try (refine gate_guard (by rfl) ?_; dsimp only)); refine Kd.R_lit (Kd.int .i64) _ 3 ?hg (N := 135) ?hd (xs := ([2] : List Int)) (inner := [.int .i64 2]) (ok := fun _ => True) (okp := fun _ => True) ?hr ?hp (fun _ hk => hk) trivial (Below.refl _ _) (Nat.le_refl _) (by simp) ?_; (case hd => rfl); (case hg => rfl); (case hr => first | (go_simp; done) | (go_simp; rfl)); (case hp => exact (Reps.one (show Kd.M (Kd.int .i64) _ _ _ 2 [.int .i64 2] from rfl) (Reps.none _ _))); intro v152 w94 ho95 hb hg_ hnew_; clear hg_ hnew_; (first | rw [← Ny151.out] at ho95 | (simp only [Int.reduceToNat] at ho95; rw [← Ny151.out] at ho95)); have n0_ := Aside0.mk (Kd.R_elder' (by (with_reducible repeat (first | apply Kd.R_alloc | apply Kd.R_drewN | apply Kd.R_drew)); exact HO148.out) (Kd.R_base ho95) hb); have n1_ := Aside0.mk (Kd.R_lower (Kd.R_new' ho95 (Kd.R_lt (by (with_reducible repeat (first | apply Kd.R_alloc | apply Kd.R_drewN | apply Kd.R_drew)); exact HO148.out))) (below_size (by repeat (first | (with_reducible first | exact HB.out | apply below_alloc | apply pw_below_drewN | apply below_drew1) | exact HB.out)))); have n2_ := Aside0.mk (below_step (by repeat (first | (with_reducible first | exact HB.out | apply below_alloc | apply pw_below_drewN | apply below_drew1) | exact HB.out)) hb); clear HO148; clear HB; have HO148 := n0_; have HO153 := n1_; have HB := n2_; clear n0_ n1_ n2_; clear hb ho95; obtain ⟨Ao96, co96, eo96⟩ := Kd.R_slice HO153.out; subst eo96) | (go_at_call 21; (with_reducible refine (funcs_fits.calls kj63 (rd l1 1) _ _ y151 true _ ?side1 ?side2 A77.out).mono ?_); (case side1 => repeat (first | exact (Kd.R_reads' HO153.out).2.2 | (with_reducible refine Kd.C_alloc ?_ _) | (with_reducible refine Kd.C_drewN ?_ _) | (with_reducible refine Kd.C_drew ?_))); (case side2 => exact (Kd.R_reads' HO153.out).2.1); rintro e w' ⟨rfl, ⟨nd, rfl⟩⟩; have p155 : 0 ≤ (2 : Int) := (by omega); have q155 : 2 < (l1.length : Int) := of_decide_eq_true (by first | (with_reducible assumption) | assumption); obtain ⟨ad155, e155, hx155_0⟩ := Kd.at_int HR1.out 2 p155 q155; obtain rfl : ad145 = ad155 := (by injection e155); (try simp only [show (2 : Int).toNat = 2 from rfl, Nat.reduceMul, Nat.reduceEqDiff, Go.Addr.add, ↓reduceIte] at hx155_0); have qi155 : (2 < l1.length) = True := eq_true (by omega); (try rw [show ((2 : Int)).toNat = 2 from rfl] at hx155_0); replace hx155_0 := (HB.out.cell (World.block_lt_of_cell? w _ hx155_0)).trans hx155_0; replace p155 := eq_true p155; replace q155 := eq_true q155) | ((with_reducible refine gate_dst (N := 142) rfl ?_); (try (refine gate_guard (by rfl) ?_; dsimp only)); refine Kd.R_lit (Kd.int .i64) _ 3 ?hg (N := 142) ?hd (xs := ([2] : List Int)) (inner := [.int .i64 2]) (ok := fun _ => True) (okp := fun _ => True) ?hr ?hp (fun _ hk => hk) trivial (Below.refl _ _) (Nat.le_refl _) (by simp) ?_; (case hd => rfl); (case hg => rfl); (case hr => first | (go_simp; done) | (go_simp; rfl)); (case hp => exact (Reps.one (show Kd.M (Kd.int .i64) _ _ _ 2 [.int .i64 2] from rfl) (Reps.none _ _))); intro v157 w97 ho98 hb hg_ hnew_; clear hg_ hnew_; (first | rw [← Ny156.out] at ho98 | (simp only [Int.reduceToNat] at ho98; rw [← Ny156.out] at ho98)); have n0_ := Aside0.mk (Kd.R_elder' (by (with_reducible repeat (first | apply Kd.R_alloc | apply Kd.R_drewN | apply Kd.R_drew)); exact HO148.out) (Kd.R_base ho98) hb); have n1_ := Aside0.mk (Kd.R_elder' (by (with_reducible repeat (first | apply Kd.R_alloc | apply Kd.R_drewN | apply Kd.R_drew)); exact HO153.out) (Kd.R_base ho98) hb); have n2_ := Aside0.mk (Kd.R_lower (Kd.R_new' (Kd.R_new' ho98 (Kd.R_lt (by (with_reducible repeat (first | apply Kd.R_alloc | apply Kd.R_drewN | apply Kd.R_drew)); exact HO148.out))) (Kd.R_lt (by (with_reducible repeat (first | apply Kd.R_alloc | apply Kd.R_drewN | apply Kd.R_drew)); exact HO153.out))) (below_size (by repeat (first | (with_reducible first | exact HB.out | apply below_alloc | apply pw_below_drewN | apply below_drew1) | exact HB.out)))); have n3_ := Aside0.mk (below_step (by repeat (first | (with_reducible first | exact HB.out | apply below_alloc | apply pw_below_drewN | apply below_drew1) | exact HB.out)) hb); clear HO148; clear HO153; clear HB; have HO148 := n0_; have HO153 := n1_; have HO158 := n2_; have HB := n3_; clear n0_ n1_ n2_ n3_; clear hb ho98; obtain ⟨Ao99, co99, eo99⟩ := Kd.R_slice HO158.out; subst eo99) | (go_at_call 21; (with_reducible refine (funcs_fits.calls kj63 (rd l1 2) _ _ y156 false _ ?side1 ?side2 A80.out).mono ?_); (case side1 => repeat (first | exact (Kd.R_reads' HO158.out).2.2 | (with_reducible refine Kd.C_alloc ?_ _) | (with_reducible refine Kd.C_drewN ?_ _) | (with_reducible refine Kd.C_drew ?_))); (case side2 => exact (Kd.R_reads' HO158.out).2.1); rintro e w' ⟨rfl, ⟨nd, rfl⟩⟩))
                                                              go_ret2
                                                              exact ⟨by first | rfl | (simp [errW_none, errW_some] <;> rfl) | (simp [*, errW_none, errW_some] <;> rfl), by repeat (first | (with_reducible first | exact HB.out | apply below_alloc | apply pw_below_drewN | apply below_drew1) | exact HB.out)⟩
                                                          · rw [if_neg c79] at H
                                                            exact absurd H (by simp)
                                                        · replace c78 := Bool.eq_false_iff.mpr c78
                                                          subst c78
                                                          have H1 : (some (0, 100)) = some (r1, r2) := by rw [if_neg (show ¬ (false = true) by decide)] at H; exact H
                                                          clear H
                                                          have H := H1
                                                          clear H1
                                                          simp only [Option.some.injEq, Prod.mk.injEq] at H
                                                          obtain ⟨rfl, rfl⟩ := H
                                                          have p145 : 0 ≤ (0 : Int) := (by omega)
                                                          have q145 : 0 < (l1.length : Int) := of_decide_eq_true (by first | (with_reducible assumption) | assumption)
                                                          obtain ⟨ad145, e145, hx145_0⟩ := Kd.at_int HR1.out 0 p145 q145
                                                          cases e145
                                                          have qi145 : (0 < l1.length) = True := eq_true (by omega)
                                                          (try rw [show ((0 : Int)).toNat = 0 from rfl] at hx145_0)
                                                          (try rw [Addr.add_zero'] at hx145_0)
                                                          replace hx145_0 := (HB.out.cell (World.block_lt_of_cell? w _ hx145_0)).trans hx145_0
                                                          replace p145 := eq_true p145
                                                          replace q145 := eq_true q145
                                                          go_wp2_with (first | ((with_reducible refine gate_dst (N := 128) rfl ?_); (try (refine gate_guard (by rfl) ?_; dsimp only)); refine Kd.R_lit (Kd.int .i64) _ 3 ?hg (N := 128) ?hd (xs := ([4] : List Int)) (inner := [.int .i64 4]) (ok := fun _ => True) (okp := fun _ => True) ?hr ?hp (fun _ hk => hk) trivial (Below.refl _ _) (Nat.le_refl _) (by simp) ?_; (case hd => rfl); (case hg => rfl); (case hr => first | (go_simp; done) | (go_simp; rfl)); (case hp => exact (Reps.one (show Kd.M (Kd.int .i64) _ _ _ 4 [.int .i64 4] from rfl) (Reps.none _ _))); intro v147 w100 ho101 hb hg_ hnew_; clear hg_ hnew_; (first | rw [← Ny146.out] at ho101 | (simp only [Int.reduceToNat] at ho101; rw [← Ny146.out] at ho101)); have n0_ := Aside0.mk (Kd.R_lower ho101 (below_size (by repeat (first | (with_reducible first | exact HB.out | apply below_alloc | apply pw_below_drewN | apply below_drew1) | exact HB.out)))); have n1_ := Aside0.mk (below_step (by repeat (first | (with_reducible first | exact HB.out | apply below_alloc | apply pw_below_drewN | apply below_drew1) | exact HB.out)) hb); clear HB; have HO148 := n0_; have HB := n1_; clear n0_ n1_; clear hb ho101; obtain ⟨Ao102, co102, eo102⟩ := Kd.R_slice HO148.out; subst eo102) | (go_at_call 21; (with_reducible refine (funcs_fits.calls kj63 (rd l1 0) _ _ y146 true _ ?side1 ?side2 A74.out).mono ?_); (case side1 => repeat (first | exact (Kd.R_reads' HO148.out).2.2 | (with_reducible refine Kd.C_alloc ?_ _) | (with_reducible refine Kd.C_drewN ?_ _) | (with_reducible refine Kd.C_drew ?_))); (case side2 => exact (Kd.R_reads' HO148.out).2.1); rintro e w' ⟨rfl, ⟨nd, rfl⟩⟩; have p150 : 0 ≤ (1 : Int) := (by omega); have q150 : 1 < (l1.length : Int) := of_decide_eq_true (by first | (with_reducible assumption) | assumption); obtain ⟨ad150, e150, hx150_0⟩ := Kd.at_int HR1.out 1 p150 q150; obtain rfl : ad145 = ad150 := (by injection e150); (try simp only [show (1 : Int).toNat = 1 from rfl, Nat.reduceMul, Nat.reduceEqDiff, Go.Addr.add, ↓reduceIte] at hx150_0); have qi150 : (1 < l1.length) = True := eq_true (by omega); (try rw [show ((1 : Int)).toNat = 1 from rfl] at hx150_0); replace hx150_0 := (HB.out.cell (World.block_lt_of_cell? w _ hx150_0)).trans hx150_0; replace p150 := eq_true p150; replace q150 := eq_true q150) | ((with_reducible refine gate_dst (N := 135) rfl ?_); (try (refine gate_guard (by rfl) ?_; dsimp only)); refine Kd.R_lit (Kd.int .i64) _ 3 ?hg (N := 135) ?hd (xs := ([2] : List Int)) (inner := [.int .i64 2]) (ok := fun _ => True) (okp := fun _ => True) ?hr ?hp (fun _ hk => hk) trivial (Below.refl _ _) (Nat.le_refl _) (by simp) ?_; (case hd => rfl); (case hg => rfl); (case hr => first | (go_simp; done) | (go_simp; rfl)); (case hp => exact (Reps.one (show Kd.M (Kd.int .i64) _ _ _ 2 [.int .i64 2] from rfl) (Reps.none _ _))); intro v152 w103 ho104 hb hg_ hnew_; clear hg_ hnew_; (first | rw [← Ny151.out] at ho104 | (simp only [Int.reduceToNat] at ho104; rw [← Ny151.out] at ho104)); have n0_ := Aside0.mk (Kd.R_elder' (by (with_reducible repeat (first | apply Kd.R_alloc | apply Kd.R_drewN | apply Kd.R_drew)); exact HO148.out) (Kd.R_base ho104) hb); have n1_ := Aside0.mk (Kd.R_lower (Kd.R_new' ho104 (Kd.R_lt (by (with_reducible repeat (first | apply Kd.R_alloc | apply Kd.R_drewN | apply Kd.R_drew)); exact HO148.out))) (below_size (by repeat (first | (with_reducible first | exact HB.out | apply below_alloc | apply pw_below_drewN | apply below_drew1) | exact HB.out)))); have n2_ := Aside0.mk (below_step (by repeat (first | (with_reducible first | exact HB.out | apply below_alloc | apply pw_below_drewN | apply below_drew1) | exact HB.out)) hb); clear HO148; clear HB; have HO148 := n0_; have HO153 := n1_; have HB := n2_; clear n0_ n1_ n2_; clear hb ho104; obtain ⟨Ao105, co105, eo105⟩ := Kd.R_slice HO153.out; subst eo105) | (go_at_call 21; (with_reducible refine (funcs_fits.calls kj63 (rd l1 1) _ _ y151 false _ ?side1 ?side2 A77.out).mono ?_); (case side1 => repeat (first | exact (Kd.R_reads' HO153.out).2.2 | (with_reducible refine Kd.C_alloc ?_ _) | (with_reducible refine Kd.C_drewN ?_ _) | (with_reducible refine Kd.C_drew ?_))); (case side2 => exact (Kd.R_reads' HO153.out).2.1); rintro e w' ⟨rfl, ⟨nd, rfl⟩⟩))
                                                          go_ret2
                                                          exact ⟨by first | rfl | (simp [errW_none, errW_some] <;> rfl) | (simp [*, errW_none, errW_some] <;> rfl), by repeat (first | (with_reducible first | exact HB.out | apply below_alloc | apply pw_below_drewN | apply below_drew1) | exact HB.out)⟩
                                                      · rw [if_neg c76] at H
                                                        exact absurd H (by simp)
                                                    · replace c75 := Bool.eq_false_iff.mpr c75
                                                      subst c75
                                                      have H1 : (some (0, 100)) = some (r1, r2) := by rw [if_neg (show ¬ (false = true) by decide)] at H; exact H
                                                      clear H
                                                      have H := H1
                                                      clear H1
                                                      simp only [Option.some.injEq, Prod.mk.injEq] at H
                                                      obtain ⟨rfl, rfl⟩ := H
                                                      have p145 : 0 ≤ (0 : Int) := (by omega)
                                                      have q145 : 0 < (l1.length : Int) := of_decide_eq_true (by first | (with_reducible assumption) | assumption)
                                                      obtain ⟨ad145, e145, hx145_0⟩ := Kd.at_int HR1.out 0 p145 q145
                                                      cases e145
                                                      have qi145 : (0 < l1.length) = True := eq_true (by omega)
                                                      (try rw [show ((0 : Int)).toNat = 0 from rfl] at hx145_0)
                                                      (try rw [Addr.add_zero'] at hx145_0)
                                                      replace hx145_0 := (HB.out.cell (World.block_lt_of_cell? w _ hx145_0)).trans hx145_0
                                                      replace p145 := eq_true p145
                                                      replace q145 := eq_true q145
                                                      go_wp2_with (first | ((with_reducible refine gate_dst (N := 128) rfl ?_); (try (refine gate_guard (by rfl) ?_; dsimp only)); refine Kd.R_lit (Kd.int .i64) _ 3 ?hg (N := 128) ?hd (xs := ([4] : List Int)) (inner := [.int .i64 4]) (ok := fun _ => True) (okp := fun _ => True) ?hr ?hp (fun _ hk => hk) trivial (Below.refl _ _) (Nat.le_refl _) (by simp) ?_; (case hd => rfl); (case hg => rfl); (case hr => first | (go_simp; done) | (go_simp; rfl)); (case hp => exact (Reps.one (show Kd.M (Kd.int .i64) _ _ _ 4 [.int .i64 4] from rfl) (Reps.none _ _))); intro v147 w106 ho107 hb hg_ hnew_; clear hg_ hnew_; (first | rw [← Ny146.out] at ho107 | (simp only [Int.reduceToNat] at ho107; rw [← Ny146.out] at ho107)); have n0_ := Aside0.mk (Kd.R_lower ho107 (below_size (by repeat (first | (with_reducible first | exact HB.out | apply below_alloc | apply pw_below_drewN | apply below_drew1) | exact HB.out)))); have n1_ := Aside0.mk (below_step (by repeat (first | (with_reducible first | exact HB.out | apply below_alloc | apply pw_below_drewN | apply below_drew1) | exact HB.out)) hb); clear HB; have HO148 := n0_; have HB := n1_; clear n0_ n1_; clear hb ho107; obtain ⟨Ao108, co108, eo108⟩ := Kd.R_slice HO148.out; subst eo108) | (go_at_call 21; (with_reducible refine (funcs_fits.calls kj63 (rd l1 0) _ _ y146 false _ ?side1 ?side2 A74.out).mono ?_); (case side1 => repeat (first | exact (Kd.R_reads' HO148.out).2.2 | (with_reducible refine Kd.C_alloc ?_ _) | (with_reducible refine Kd.C_drewN ?_ _) | (with_reducible refine Kd.C_drew ?_))); (case side2 => exact (Kd.R_reads' HO148.out).2.1); rintro e w' ⟨rfl, ⟨nd, rfl⟩⟩))
                                                      go_ret2
                                                      exact ⟨by first | rfl | (simp [errW_none, errW_some] <;> rfl) | (simp [*, errW_none, errW_some] <;> rfl), by repeat (first | (with_reducible first | exact HB.out | apply below_alloc | apply pw_below_drewN | apply below_drew1) | exact HB.out)⟩
                                                  · rw [if_neg c73] at H
                                                    exact absurd H (by simp)
                                                · rw [if_neg c72] at H
                                                  have c72b0 : ((l1.length : Int) == 3) = false := beq_eq_false_iff_ne.mpr c72
                                                  have c72b1 : ((l1.length : Int) != 3) = true := bne_iff_ne.mpr c72
                                                  simp only [Option.some.injEq, Prod.mk.injEq] at H
                                                  obtain ⟨rfl, rfl⟩ := H
                                                  go_wp2
                                                  go_ret2
                                                  exact ⟨by first | rfl | (simp [errW_none, errW_some] <;> rfl) | (simp [*, errW_none, errW_some] <;> rfl), by repeat (first | (with_reducible first | exact HB.out | apply below_alloc | apply pw_below_drewN | apply below_drew1) | exact HB.out)⟩
                                              · rw [if_neg c71] at H
                                                have c71b0 : (a0.toList == ([115, 117, 98, 115, 116, 114] : List UInt8)) = false := beq_eq_false_iff_ne.mpr c71
                                                have c71b1 : (a0.toList != ([115, 117, 98, 115, 116, 114] : List UInt8)) = true := bne_iff_ne.mpr c71
                                                by_cases c109 : false = true
                                                · cases c109
                                                · have H1 : (some (0, 100)) = some (r1, r2) := by rw [if_neg (show ¬ (false = true) by decide)] at H; exact H
                                                  clear H
                                                  have H := H1
                                                  clear H1
                                                  simp only [Option.some.injEq, Prod.mk.injEq] at H
                                                  obtain ⟨rfl, rfl⟩ := H
                                                  go_wp2
                                                  go_ret2
                                                  exact ⟨by first | rfl | (simp [errW_none, errW_some] <;> rfl) | (simp [*, errW_none, errW_some] <;> rfl), by repeat (first | (with_reducible first | exact HB.out | apply below_alloc | apply pw_below_drewN | apply below_drew1) | exact HB.out)⟩
end Go.Proofs.YtchbodpkaiengaaGreatDoor.PFuncsKinds
