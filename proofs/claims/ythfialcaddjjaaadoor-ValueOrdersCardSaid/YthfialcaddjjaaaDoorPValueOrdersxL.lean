import Derived.Test.YthfialcaddjjaaaDoorPValueOrdersx0
import Derived.Test.YthfialcaddjjaaaDoorBase
import Derived.Deep.RegionHeld3
import Derived.Deep.CutRange
import Derived.Test.YthfialcaddjjaaaDoorPValueOrdersx0
import Derived.Test.YthfialcaddjjaaaDoorPValueOrdersx1
import Derived.Test.YthfialcaddjjaaaDoorPValueOrdersx2
import Derived.Test.YthfialcaddjjaaaDoorPValueOrdersx3
import Derived.Test.YthfialcaddjjaaaDoorPValueOrdersx4
import Derived.Test.YthfialcaddjjaaaDoorPValueOrdersx5
import Derived.Outline
namespace Go.Proofs.YthfialcaddjjaaaDoor.PValueOrders
open Go.RowKit Go.Proofs.YthfialcaddjjaaaDoorW.PrintWords Go.Proofs.YthfialcaddjjaaaDoorW.PrintLast Go.Proofs.YthfialcaddjjaaaDoorW.PrintMore
set_option linter.unusedVariables false
/-- The parameter's box, and what is new alone is written. -/
abbrev marqueelaw01_ValueOrders.L (a0 a1 : Int) (a2 : ByteArray) (b0 b1 : Int) (b2 : ByteArray) (c0 c1 : Int) (c2 : ByteArray) (w W : World) : Prop :=
  (W.cell? ⟨w.heap.size, 0, none⟩ = some (.int .i64 a0) ∧ W.cell? ⟨w.heap.size, 1, none⟩ = some (.int .i64 a1) ∧ W.cell? ⟨w.heap.size, 2, none⟩ = some (.string a2)) ∧
  (W.cell? ⟨w.heap.size, 3, none⟩ = some (.int .i64 b0) ∧ W.cell? ⟨w.heap.size, 4, none⟩ = some (.int .i64 b1) ∧ W.cell? ⟨w.heap.size, 5, none⟩ = some (.string b2)) ∧
  (W.cell? ⟨w.heap.size, 6, none⟩ = some (.int .i64 c0) ∧ W.cell? ⟨w.heap.size, 7, none⟩ = some (.int .i64 c1) ∧ W.cell? ⟨w.heap.size, 8, none⟩ = some (.string c2)) ∧
  Hid (Laid W ∧ Below w.heap.size w W)
/-- The three values' boxes. -/
abbrev marqueelaw01_ValueOrders.F (a0 a1 : Int) (a2 : ByteArray) (b0 b1 : Int) (b2 : ByteArray) (c0 c1 : Int) (c2 : ByteArray) (p q r : Nat) (w W : World) : Prop :=
  (W.cell? ⟨p, 0, none⟩ = some (.int .i64 a0) ∧ W.cell? ⟨p, 1, none⟩ = some (.int .i64 a1) ∧ W.cell? ⟨p, 2, none⟩ = some (.string a2)) ∧
  (W.cell? ⟨q, 0, none⟩ = some (.int .i64 b0) ∧ W.cell? ⟨q, 1, none⟩ = some (.int .i64 b1) ∧ W.cell? ⟨q, 2, none⟩ = some (.string b2)) ∧
  (W.cell? ⟨r, 0, none⟩ = some (.int .i64 c0) ∧ W.cell? ⟨r, 1, none⟩ = some (.int .i64 c1) ∧ W.cell? ⟨r, 2, none⟩ = some (.string c2)) ∧
  Hid (Laid W ∧ Below w.heap.size w W)
theorem marqueelaw01_ValueOrders.kept {p i : Nat} {v : Value} {W W' : World} (h : W.cell? ⟨p, i, none⟩ = some v) (hb : Below W.heap.size W W') : W'.cell? ⟨p, i, none⟩ = some v := (hb.cell (World.block_lt_of_cell? _ _ h)).trans h
theorem marqueelaw01_ValueOrders.onL {a0 a1 : Int} {a2 : ByteArray} {b0 b1 : Int} {b2 : ByteArray} {c0 c1 : Int} {c2 : ByteArray} {w W W' : World} (h : marqueelaw01_ValueOrders.L a0 a1 a2 b0 b1 b2 c0 c1 c2 w W) (hb : Below W.heap.size W W') : marqueelaw01_ValueOrders.L a0 a1 a2 b0 b1 b2 c0 c1 c2 w W' := by
  obtain ⟨⟨x0, x1, x2⟩, ⟨y0, y1, y2⟩, ⟨z0, z1, z2⟩, hh⟩ := h
  obtain ⟨h1, h2⟩ := hh.out
  exact ⟨⟨marqueelaw01_ValueOrders.kept x0 hb, marqueelaw01_ValueOrders.kept x1 hb, marqueelaw01_ValueOrders.kept x2 hb⟩, ⟨marqueelaw01_ValueOrders.kept y0 hb, marqueelaw01_ValueOrders.kept y1 hb, marqueelaw01_ValueOrders.kept y2 hb⟩, ⟨marqueelaw01_ValueOrders.kept z0 hb, marqueelaw01_ValueOrders.kept z1 hb, marqueelaw01_ValueOrders.kept z2 hb⟩, Lib.hid ⟨h1.below hb, h2.trans (hb.mono h2.size)⟩⟩
theorem marqueelaw01_ValueOrders.on {a0 a1 : Int} {a2 : ByteArray} {b0 b1 : Int} {b2 : ByteArray} {c0 c1 : Int} {c2 : ByteArray} {p q r : Nat} {w W W' : World} (h : marqueelaw01_ValueOrders.F a0 a1 a2 b0 b1 b2 c0 c1 c2 p q r w W) (hb : Below W.heap.size W W') : marqueelaw01_ValueOrders.F a0 a1 a2 b0 b1 b2 c0 c1 c2 p q r w W' := by
  obtain ⟨⟨x0, x1, x2⟩, ⟨y0, y1, y2⟩, ⟨z0, z1, z2⟩, hh⟩ := h
  obtain ⟨h1, h2⟩ := hh.out
  exact ⟨⟨marqueelaw01_ValueOrders.kept x0 hb, marqueelaw01_ValueOrders.kept x1 hb, marqueelaw01_ValueOrders.kept x2 hb⟩, ⟨marqueelaw01_ValueOrders.kept y0 hb, marqueelaw01_ValueOrders.kept y1 hb, marqueelaw01_ValueOrders.kept y2 hb⟩, ⟨marqueelaw01_ValueOrders.kept z0 hb, marqueelaw01_ValueOrders.kept z1 hb, marqueelaw01_ValueOrders.kept z2 hb⟩, Lib.hid ⟨h1.below hb, h2.trans (hb.mono h2.size)⟩⟩
theorem marqueelaw01_ValueOrders.drawn {a0 a1 : Int} {a2 : ByteArray} {b0 b1 : Int} {b2 : ByteArray} {c0 c1 : Int} {c2 : ByteArray} {p q r : Nat} {w W : World} (h : marqueelaw01_ValueOrders.F a0 a1 a2 b0 b1 b2 c0 c1 c2 p q r w W) : marqueelaw01_ValueOrders.F a0 a1 a2 b0 b1 b2 c0 c1 c2 p q r w W.drew := marqueelaw01_ValueOrders.on h (below_drew1 (Below.refl _ _))
abbrev marqueelaw01_ValueOrders.box (a0 a1 : Int) (a2 : ByteArray) (b0 b1 : Int) (b2 : ByteArray) (c0 c1 : Int) (c2 : ByteArray) (w : World) : World := w.alloc (.cells #[.int .i64 a0, .int .i64 a1, .string a2, .int .i64 b0, .int .i64 b1, .string b2, .int .i64 c0, .int .i64 c1, .string c2] 29)
theorem marqueelaw01_ValueOrders.m {a0 a1 : Int} {a2 : ByteArray} {b0 b1 : Int} {b2 : ByteArray} {c0 c1 : Int} {c2 : ByteArray} {w : World} (hG : Hid (Laid w)) : marqueelaw01_ValueOrders.L a0 a1 a2 b0 b1 b2 c0 c1 c2 w (marqueelaw01_ValueOrders.box a0 a1 a2 b0 b1 b2 c0 c1 c2 w) := by
  have hb : Below w.heap.size w (marqueelaw01_ValueOrders.box a0 a1 a2 b0 b1 b2 c0 c1 c2 w) := (Below.refl _ _).alloc (Nat.le_refl _) _
  have hc := fun i => World.cell?_alloc_at (w := w) #[.int .i64 a0, .int .i64 a1, .string a2, .int .i64 b0, .int .i64 b1, .string b2, .int .i64 c0, .int .i64 c1, .string c2] 29 w.heap.size i rfl
  exact ⟨⟨hc 0, hc 1, hc 2⟩, ⟨hc 3, hc 4, hc 5⟩, ⟨hc 6, hc 7, hc 8⟩, Lib.hid ⟨hG.out.below hb, hb⟩⟩
theorem marqueelaw01_ValueOrders.m0 {a0 a1 : Int} {a2 : ByteArray} {b0 b1 : Int} {b2 : ByteArray} {c0 c1 : Int} {c2 : ByteArray} {w : World} (hG : Hid (Laid w)) : marqueelaw01_ValueOrders.L a0 a1 a2 b0 b1 b2 c0 c1 c2 w (marqueelaw01_ValueOrders.box a0 a1 a2 b0 b1 b2 c0 c1 c2 w).drew := marqueelaw01_ValueOrders.onL (marqueelaw01_ValueOrders.m hG) (below_drew1 (Below.refl _ _))
theorem marqueelaw01_ValueOrders.m1 {a0 a1 : Int} {a2 : ByteArray} {b0 b1 : Int} {b2 : ByteArray} {c0 c1 : Int} {c2 : ByteArray} {w : World} (X : Obj) (hG : Hid (Laid w)) : marqueelaw01_ValueOrders.L a0 a1 a2 b0 b1 b2 c0 c1 c2 w ((marqueelaw01_ValueOrders.box a0 a1 a2 b0 b1 b2 c0 c1 c2 w).alloc X).drew := marqueelaw01_ValueOrders.onL (marqueelaw01_ValueOrders.m hG) (below_drew1 ((Below.refl _ _).alloc (Nat.le_refl _) _))
theorem marqueelaw01_ValueOrders.m2 {a0 a1 : Int} {a2 : ByteArray} {b0 b1 : Int} {b2 : ByteArray} {c0 c1 : Int} {c2 : ByteArray} {w : World} (X Y : Obj) (hG : Hid (Laid w)) : marqueelaw01_ValueOrders.L a0 a1 a2 b0 b1 b2 c0 c1 c2 w (((marqueelaw01_ValueOrders.box a0 a1 a2 b0 b1 b2 c0 c1 c2 w).alloc X).alloc Y).drew := marqueelaw01_ValueOrders.onL (marqueelaw01_ValueOrders.m hG) (below_drew1 (((Below.refl _ _).alloc (Nat.le_refl _) _).alloc (by simp) _))
theorem marqueelaw01_ValueOrders.m3 {a0 a1 : Int} {a2 : ByteArray} {b0 b1 : Int} {b2 : ByteArray} {c0 c1 : Int} {c2 : ByteArray} {w : World} (X Y Z : Obj) (hG : Hid (Laid w)) : marqueelaw01_ValueOrders.L a0 a1 a2 b0 b1 b2 c0 c1 c2 w ((((marqueelaw01_ValueOrders.box a0 a1 a2 b0 b1 b2 c0 c1 c2 w).alloc X).alloc Y).alloc Z).drew := marqueelaw01_ValueOrders.onL (marqueelaw01_ValueOrders.m hG) (below_drew1 ((((Below.refl _ _).alloc (Nat.le_refl _) _).alloc (by simp) _).alloc (by simp) _))
/-- What the boxes hold, the three made in any order. -/
theorem marqueelaw01_ValueOrders.c1 {X Y Z : Array Value} {t : TypeId} {W : World} {x : Value} (n i : Nat) (hn : n = W.heap.size) (hX : X[i]? = some x) : ((((W.alloc (.cells X t)).alloc (.cells Y t)).alloc (.cells Z t)).drew).cell? ⟨n, i, none⟩ = some x :=
  ((World.cell?_alloc_past _ n i (by simp; omega)).trans (World.cell?_alloc_past _ n i (by simp; omega))).trans ((World.cell?_alloc_at X t n i hn).trans hX)
theorem marqueelaw01_ValueOrders.c2 {X Y Z : Array Value} {t : TypeId} {W : World} {x : Value} (n i : Nat) (hn : n = W.heap.size + 1) (hX : Y[i]? = some x) : ((((W.alloc (.cells X t)).alloc (.cells Y t)).alloc (.cells Z t)).drew).cell? ⟨n, i, none⟩ = some x :=
  (World.cell?_alloc_past _ n i (by simp; omega)).trans ((World.cell?_alloc_at Y t n i (by simp [hn])).trans hX)
theorem marqueelaw01_ValueOrders.c3 {X Y Z : Array Value} {t : TypeId} {W : World} {x : Value} (n i : Nat) (hn : n = W.heap.size + 2) (hX : Z[i]? = some x) : ((((W.alloc (.cells X t)).alloc (.cells Y t)).alloc (.cells Z t)).drew).cell? ⟨n, i, none⟩ = some x :=
  (World.cell?_alloc_at Z t n i (by simp [hn])).trans hX
set_option maxHeartbeats 8000000 in
set_option maxRecDepth 100000 in
/-- The walk: five calls' answers given, the whole answers true. -/
theorem marqueelaw01_ValueOrders.walk (k : Nat) (a0 a1 : Int) (a2 : ByteArray) (b0 b1 : Int) (b2 : ByteArray) (c0 c1 : Int) (c2 : ByteArray) (x y z u : Int) (w : World) (hG : Laid w)
    (hab : value_Order.f k a0 a1 a2 b0 b1 b2 = some x) (hba : value_Order.f k b0 b1 b2 a0 a1 a2 = some y) (haa : value_Order.f k a0 a1 a2 a0 a1 a2 = some 0)
    (hbc : value_Order.f k b0 b1 b2 c0 c1 c2 = some z) (hac : value_Order.f k a0 a1 a2 c0 c1 c2 = some u)
    (hxy : (x = 1 ∧ y = -1) ∨ (x = 0 ∧ y = 0) ∨ (x = -1 ∧ y = 1)) (hz : x > 0 ∨ z > 0 ∨ u ≤ 0) :
    Calls Tryd.prog 7 #[.agg #[.int .i64 a0, .int .i64 a1, .string a2, .int .i64 b0, .int .i64 b1, .string b2, .int .i64 c0, .int .i64 c1, .string c2]] w fun e w' => e = .returned (.bool true) ∧ Below w.heap.size w w' := by
  have HG := Lib.hid hG
  clear hG
  have Hab := Lib.hid hab
  have Hba := Lib.hid hba
  have Haa := Lib.hid haa
  have Hbc := Lib.hid hbc
  have Hac := Lib.hid hac
  have Hxy := Lib.hid hxy
  have Hz := Lib.hid hz
  clear hab hba haa hbc hac hxy hz
  go_enter Tryd.func7, Tryd.ntmps7
  go_upto_region 2 with fail
  go_cut [3, 4, 5] from 6 to 44 (fun x y z wx => ∃ p q r : Nat, x = .pointer (some ⟨p, 0, none⟩) ∧ y = .pointer (some ⟨q, 0, none⟩) ∧ z = .pointer (some ⟨r, 0, none⟩) ∧ marqueelaw01_ValueOrders.F a0 a1 a2 b0 b1 b2 c0 c1 c2 p q r w wx)
  case first =>
    go_region_held3 (fun W => marqueelaw01_ValueOrders.L a0 a1 a2 b0 b1 b2 c0 c1 c2 w W) (first | with_reducible exact marqueelaw01_ValueOrders.m0 HG | with_reducible exact marqueelaw01_ValueOrders.m1 _ HG | with_reducible exact marqueelaw01_ValueOrders.m2 _ _ HG | with_reducible exact marqueelaw01_ValueOrders.m3 _ _ _ HG) (fail)
    all_goals
      rename_i hL
      go_wp2_with fail
      go_meet
      refine ⟨_, _, _, rfl, rfl, rfl, ?_⟩
      refine ⟨⟨?_, ?_, ?_⟩, ⟨?_, ?_, ?_⟩, ⟨?_, ?_, ?_⟩, hL.2.2.2⟩
      all_goals first | with_reducible exact marqueelaw01_ValueOrders.c1 _ _ (by simp) rfl | with_reducible exact marqueelaw01_ValueOrders.c2 _ _ (by simp) rfl | with_reducible exact marqueelaw01_ValueOrders.c3 _ _ (by simp) rfl
  case rest =>
    obtain ⟨p, q, r, rfl, rfl, rfl, HF⟩ := hcut
    have n1 : IntKind.i64.wrap 1 = 1 := by kernel_rfl
    have n2 : IntKind.i64.wrap 0 = 0 := by kernel_rfl
    have n3 : IntKind.i64.wrap (-1) = -1 := by kernel_rfl
    rcases Hxy.out with ⟨rfl, rfl⟩ | ⟨rfl, rfl⟩ | ⟨rfl, rfl⟩
    · clear Hxy
      go_wp2_with fail
      go_region_held3 (fun W => marqueelaw01_ValueOrders.F a0 a1 a2 b0 b1 b2 c0 c1 c2 p q r w W) (first | with_reducible exact HF | with_reducible exact marqueelaw01_ValueOrders.drawn ‹_› | with_reducible exact marqueelaw01_ValueOrders.on ‹_› ‹_›) (first
        | (go_at_call 22; (with_reducible refine (value_Order.calls k a0 a1 a2 b0 b1 b2 _ _ Hab.out).mono ?_); rintro e w' ⟨rfl, hb⟩)
        | (go_at_call 22; (with_reducible refine (value_Order.calls k b0 b1 b2 a0 a1 a2 _ _ Hba.out).mono ?_); rintro e w' ⟨rfl, hb⟩)
        | (go_at_call 22; (with_reducible refine (value_Order.calls k a0 a1 a2 a0 a1 a2 _ _ Haa.out).mono ?_); rintro e w' ⟨rfl, hb⟩))
      all_goals
        rename_i HF2
        clear HF
        have HF := HF2
        clear HF2
        clear Hz
        go_wp2_with fail
        refine (value_Order.calls k a0 a1 a2 b0 b1 b2 _ _ Hab.out).mono ?_
        rintro e w1 ⟨rfl, hb1⟩
        have HF1 := marqueelaw01_ValueOrders.on HF hb1
        clear HF hb1
        have HF := HF1
        clear HF1
        go_wp2_with fail
        refine (marqueelaw01_awake.calls true _ HF.2.2.2.out.1 rfl).mono ?_
        rintro e w9 ⟨rfl, hb9⟩
        have HB := Lib.hid (HF.2.2.2.out.2.trans (hb9.mono HF.2.2.2.out.2.size))
        clear HF hb9
        go_wp2
        go_ret
        exact ⟨rfl, HB.out⟩
    · clear Hxy
      go_wp2_with fail
      go_region_held3 (fun W => marqueelaw01_ValueOrders.F a0 a1 a2 b0 b1 b2 c0 c1 c2 p q r w W) (first | with_reducible exact HF | with_reducible exact marqueelaw01_ValueOrders.drawn ‹_› | with_reducible exact marqueelaw01_ValueOrders.on ‹_› ‹_›) (first
        | (go_at_call 22; (with_reducible refine (value_Order.calls k a0 a1 a2 b0 b1 b2 _ _ Hab.out).mono ?_); rintro e w' ⟨rfl, hb⟩)
        | (go_at_call 22; (with_reducible refine (value_Order.calls k b0 b1 b2 a0 a1 a2 _ _ Hba.out).mono ?_); rintro e w' ⟨rfl, hb⟩)
        | (go_at_call 22; (with_reducible refine (value_Order.calls k a0 a1 a2 a0 a1 a2 _ _ Haa.out).mono ?_); rintro e w' ⟨rfl, hb⟩))
      all_goals
        rename_i HF2
        clear HF
        have HF := HF2
        clear HF2
        by_cases hz : z > 0
        · have d1 : decide (z > 0) = true := decide_eq_true hz
          have d2 : decide (0 < z) = true := decide_eq_true hz
          clear Hz
          go_wp2_with fail
          refine (value_Order.calls k a0 a1 a2 b0 b1 b2 _ _ Hab.out).mono ?_
          rintro e w1 ⟨rfl, hb1⟩
          have HF1 := marqueelaw01_ValueOrders.on HF hb1
          clear HF hb1
          have HF := HF1
          clear HF1
          go_wp2_with fail
          refine (value_Order.calls k b0 b1 b2 c0 c1 c2 _ _ Hbc.out).mono ?_
          rintro e w2 ⟨rfl, hb2⟩
          have HF2 := marqueelaw01_ValueOrders.on HF hb2
          clear HF hb2
          have HF := HF2
          clear HF2
          go_wp2_with fail
          refine (marqueelaw01_awake.calls true _ HF.2.2.2.out.1 rfl).mono ?_
          rintro e w9 ⟨rfl, hb9⟩
          have HB := Lib.hid (HF.2.2.2.out.2.trans (hb9.mono HF.2.2.2.out.2.size))
          clear HF hb9
          go_wp2
          go_ret
          exact ⟨rfl, HB.out⟩
        · have hu : u ≤ 0 := by have := Hz.out; omega
          have d1 : decide (z > 0) = false := decide_eq_false hz
          have d2 : decide (0 < z) = false := decide_eq_false hz
          have d3 : decide (u ≤ 0) = true := decide_eq_true hu
          clear Hz
          go_wp2_with fail
          refine (value_Order.calls k a0 a1 a2 b0 b1 b2 _ _ Hab.out).mono ?_
          rintro e w1 ⟨rfl, hb1⟩
          have HF1 := marqueelaw01_ValueOrders.on HF hb1
          clear HF hb1
          have HF := HF1
          clear HF1
          go_wp2_with fail
          refine (value_Order.calls k b0 b1 b2 c0 c1 c2 _ _ Hbc.out).mono ?_
          rintro e w2 ⟨rfl, hb2⟩
          have HF2 := marqueelaw01_ValueOrders.on HF hb2
          clear HF hb2
          have HF := HF2
          clear HF2
          go_wp2_with fail
          refine (value_Order.calls k a0 a1 a2 c0 c1 c2 _ _ Hac.out).mono ?_
          rintro e w3 ⟨rfl, hb3⟩
          have HF3 := marqueelaw01_ValueOrders.on HF hb3
          clear HF hb3
          have HF := HF3
          clear HF3
          go_wp2_with fail
          refine (marqueelaw01_awake.calls true _ HF.2.2.2.out.1 rfl).mono ?_
          rintro e w9 ⟨rfl, hb9⟩
          have HB := Lib.hid (HF.2.2.2.out.2.trans (hb9.mono HF.2.2.2.out.2.size))
          clear HF hb9
          go_wp2
          go_ret
          exact ⟨rfl, HB.out⟩
    · clear Hxy
      go_wp2_with fail
      go_region_held3 (fun W => marqueelaw01_ValueOrders.F a0 a1 a2 b0 b1 b2 c0 c1 c2 p q r w W) (first | with_reducible exact HF | with_reducible exact marqueelaw01_ValueOrders.drawn ‹_› | with_reducible exact marqueelaw01_ValueOrders.on ‹_› ‹_›) (first
        | (go_at_call 22; (with_reducible refine (value_Order.calls k a0 a1 a2 b0 b1 b2 _ _ Hab.out).mono ?_); rintro e w' ⟨rfl, hb⟩)
        | (go_at_call 22; (with_reducible refine (value_Order.calls k b0 b1 b2 a0 a1 a2 _ _ Hba.out).mono ?_); rintro e w' ⟨rfl, hb⟩)
        | (go_at_call 22; (with_reducible refine (value_Order.calls k a0 a1 a2 a0 a1 a2 _ _ Haa.out).mono ?_); rintro e w' ⟨rfl, hb⟩))
      all_goals
        rename_i HF2
        clear HF
        have HF := HF2
        clear HF2
        by_cases hz : z > 0
        · have d1 : decide (z > 0) = true := decide_eq_true hz
          have d2 : decide (0 < z) = true := decide_eq_true hz
          clear Hz
          go_wp2_with fail
          refine (value_Order.calls k a0 a1 a2 b0 b1 b2 _ _ Hab.out).mono ?_
          rintro e w1 ⟨rfl, hb1⟩
          have HF1 := marqueelaw01_ValueOrders.on HF hb1
          clear HF hb1
          have HF := HF1
          clear HF1
          go_wp2_with fail
          refine (value_Order.calls k b0 b1 b2 c0 c1 c2 _ _ Hbc.out).mono ?_
          rintro e w2 ⟨rfl, hb2⟩
          have HF2 := marqueelaw01_ValueOrders.on HF hb2
          clear HF hb2
          have HF := HF2
          clear HF2
          go_wp2_with fail
          refine (marqueelaw01_awake.calls true _ HF.2.2.2.out.1 rfl).mono ?_
          rintro e w9 ⟨rfl, hb9⟩
          have HB := Lib.hid (HF.2.2.2.out.2.trans (hb9.mono HF.2.2.2.out.2.size))
          clear HF hb9
          go_wp2
          go_ret
          exact ⟨rfl, HB.out⟩
        · have hu : u ≤ 0 := by have := Hz.out; omega
          have d1 : decide (z > 0) = false := decide_eq_false hz
          have d2 : decide (0 < z) = false := decide_eq_false hz
          have d3 : decide (u ≤ 0) = true := decide_eq_true hu
          clear Hz
          go_wp2_with fail
          refine (value_Order.calls k a0 a1 a2 b0 b1 b2 _ _ Hab.out).mono ?_
          rintro e w1 ⟨rfl, hb1⟩
          have HF1 := marqueelaw01_ValueOrders.on HF hb1
          clear HF hb1
          have HF := HF1
          clear HF1
          go_wp2_with fail
          refine (value_Order.calls k b0 b1 b2 c0 c1 c2 _ _ Hbc.out).mono ?_
          rintro e w2 ⟨rfl, hb2⟩
          have HF2 := marqueelaw01_ValueOrders.on HF hb2
          clear HF hb2
          have HF := HF2
          clear HF2
          go_wp2_with fail
          refine (value_Order.calls k a0 a1 a2 c0 c1 c2 _ _ Hac.out).mono ?_
          rintro e w3 ⟨rfl, hb3⟩
          have HF3 := marqueelaw01_ValueOrders.on HF hb3
          clear HF hb3
          have HF := HF3
          clear HF3
          go_wp2_with fail
          refine (marqueelaw01_awake.calls true _ HF.2.2.2.out.1 rfl).mono ?_
          rintro e w9 ⟨rfl, hb9⟩
          have HB := Lib.hid (HF.2.2.2.out.2.trans (hb9.mono HF.2.2.2.out.2.size))
          clear HF hb9
          go_wp2
          go_ret
          exact ⟨rfl, HB.out⟩
/-- The law by its five orders. -/
def marqueelaw01_ValueOrders.f (k : Nat) (a0_0 a0_1 : Int) (a0_2 : ByteArray) (a0_3 a0_4 : Int) (a0_5 : ByteArray) (a0_6 a0_7 : Int) (a0_8 : ByteArray) : Option Bool :=
  (value_Order.f k a0_0 a0_1 a0_2 a0_3 a0_4 a0_5).bind fun x => (value_Order.f k a0_3 a0_4 a0_5 a0_0 a0_1 a0_2).bind fun y => (value_Order.f k a0_0 a0_1 a0_2 a0_0 a0_1 a0_2).bind fun o => (value_Order.f k a0_3 a0_4 a0_5 a0_6 a0_7 a0_8).bind fun z => (value_Order.f k a0_0 a0_1 a0_2 a0_6 a0_7 a0_8).bind fun u =>
    if o = 0 ∧ ((x = 1 ∧ y = -1) ∨ (x = 0 ∧ y = 0) ∨ (x = -1 ∧ y = 1)) ∧ (x > 0 ∨ z > 0 ∨ u ≤ 0) then some true else none
theorem marqueelaw01_ValueOrders.calls (k : Nat) (a0_0 a0_1 : Int) (a0_2 : ByteArray) (a0_3 a0_4 : Int) (a0_5 : ByteArray) (a0_6 a0_7 : Int) (a0_8 : ByteArray) (r : Bool) (w : World) (hG : Laid w) (h : marqueelaw01_ValueOrders.f k a0_0 a0_1 a0_2 a0_3 a0_4 a0_5 a0_6 a0_7 a0_8 = some r) :
    Calls Tryd.prog 7 #[.agg #[.int .i64 a0_0, .int .i64 a0_1, .string a0_2, .int .i64 a0_3, .int .i64 a0_4, .string a0_5, .int .i64 a0_6, .int .i64 a0_7, .string a0_8]] w fun e w' => e = .returned (.bool r) ∧ Below w.heap.size w w' := by
  unfold marqueelaw01_ValueOrders.f at h
  obtain ⟨x, hx, h⟩ := Option.bind_eq_some_iff.1 h
  obtain ⟨y, hy, h⟩ := Option.bind_eq_some_iff.1 h
  obtain ⟨o, ho, h⟩ := Option.bind_eq_some_iff.1 h
  obtain ⟨z, hz, h⟩ := Option.bind_eq_some_iff.1 h
  obtain ⟨u, hu, h⟩ := Option.bind_eq_some_iff.1 h
  by_cases hc : o = 0 ∧ ((x = 1 ∧ y = -1) ∨ (x = 0 ∧ y = 0) ∨ (x = -1 ∧ y = 1)) ∧ (x > 0 ∨ z > 0 ∨ u ≤ 0)
  · rw [if_pos hc] at h
    obtain rfl := Option.some.inj h
    obtain ⟨rfl, h1, h2⟩ := hc
    exact marqueelaw01_ValueOrders.walk k _ _ _ _ _ _ _ _ _ x y z u w hG hx hy ho hz hu h1 h2
  · rw [if_neg hc] at h
    exact absurd h (by simp)

end Go.Proofs.YthfialcaddjjaaaDoor.PValueOrders
