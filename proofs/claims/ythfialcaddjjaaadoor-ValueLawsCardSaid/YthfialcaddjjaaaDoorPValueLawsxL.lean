import Derived.Test.YthfialcaddjjaaaDoorPValueLawsx0
import Derived.Test.YthfialcaddjjaaaDoorBase
import Derived.Deep.RegionHeld3
import Derived.Deep.CutRange
import Derived.Test.YthfialcaddjjaaaDoorPValueLawsx0
import Derived.Test.YthfialcaddjjaaaDoorPValueLawsx1
import Derived.Test.YthfialcaddjjaaaDoorPValueLawsx2
import Derived.Test.YthfialcaddjjaaaDoorPValueLawsx3
import Derived.Outline
namespace Go.Proofs.YthfialcaddjjaaaDoor.PValueLaws
open Go.RowKit Go.Proofs.YthfialcaddjjaaaDoorW.PrintWords Go.Proofs.YthfialcaddjjaaaDoorW.PrintLast Go.Proofs.YthfialcaddjjaaaDoorW.PrintMore
set_option linter.unusedVariables false
/-- The parameter's box, and what is new alone is written. -/
abbrev marqueelaw01_ValueLaws.L (a0 a1 : Int) (a2 : ByteArray) (b0 b1 : Int) (b2 : ByteArray) (c0 c1 : Int) (c2 : ByteArray) (w W : World) : Prop :=
  (W.cell? ⟨w.heap.size, 0, none⟩ = some (.int .i64 a0) ∧ W.cell? ⟨w.heap.size, 1, none⟩ = some (.int .i64 a1) ∧ W.cell? ⟨w.heap.size, 2, none⟩ = some (.string a2)) ∧
  (W.cell? ⟨w.heap.size, 3, none⟩ = some (.int .i64 b0) ∧ W.cell? ⟨w.heap.size, 4, none⟩ = some (.int .i64 b1) ∧ W.cell? ⟨w.heap.size, 5, none⟩ = some (.string b2)) ∧
  (W.cell? ⟨w.heap.size, 6, none⟩ = some (.int .i64 c0) ∧ W.cell? ⟨w.heap.size, 7, none⟩ = some (.int .i64 c1) ∧ W.cell? ⟨w.heap.size, 8, none⟩ = some (.string c2)) ∧
  Hid (Laid W ∧ Below w.heap.size w W)
/-- The three values' boxes. -/
abbrev marqueelaw01_ValueLaws.F (a0 a1 : Int) (a2 : ByteArray) (b0 b1 : Int) (b2 : ByteArray) (c0 c1 : Int) (c2 : ByteArray) (p q r : Nat) (w W : World) : Prop :=
  (W.cell? ⟨p, 0, none⟩ = some (.int .i64 a0) ∧ W.cell? ⟨p, 1, none⟩ = some (.int .i64 a1) ∧ W.cell? ⟨p, 2, none⟩ = some (.string a2)) ∧
  (W.cell? ⟨q, 0, none⟩ = some (.int .i64 b0) ∧ W.cell? ⟨q, 1, none⟩ = some (.int .i64 b1) ∧ W.cell? ⟨q, 2, none⟩ = some (.string b2)) ∧
  (W.cell? ⟨r, 0, none⟩ = some (.int .i64 c0) ∧ W.cell? ⟨r, 1, none⟩ = some (.int .i64 c1) ∧ W.cell? ⟨r, 2, none⟩ = some (.string c2)) ∧
  Hid (Laid W ∧ Below w.heap.size w W)
theorem marqueelaw01_ValueLaws.kept {p i : Nat} {v : Value} {W W' : World} (h : W.cell? ⟨p, i, none⟩ = some v) (hb : Below W.heap.size W W') : W'.cell? ⟨p, i, none⟩ = some v := (hb.cell (World.block_lt_of_cell? _ _ h)).trans h
theorem marqueelaw01_ValueLaws.onL {a0 a1 : Int} {a2 : ByteArray} {b0 b1 : Int} {b2 : ByteArray} {c0 c1 : Int} {c2 : ByteArray} {w W W' : World} (h : marqueelaw01_ValueLaws.L a0 a1 a2 b0 b1 b2 c0 c1 c2 w W) (hb : Below W.heap.size W W') : marqueelaw01_ValueLaws.L a0 a1 a2 b0 b1 b2 c0 c1 c2 w W' := by
  obtain ⟨⟨x0, x1, x2⟩, ⟨y0, y1, y2⟩, ⟨z0, z1, z2⟩, hh⟩ := h
  obtain ⟨h1, h2⟩ := hh.out
  exact ⟨⟨marqueelaw01_ValueLaws.kept x0 hb, marqueelaw01_ValueLaws.kept x1 hb, marqueelaw01_ValueLaws.kept x2 hb⟩, ⟨marqueelaw01_ValueLaws.kept y0 hb, marqueelaw01_ValueLaws.kept y1 hb, marqueelaw01_ValueLaws.kept y2 hb⟩, ⟨marqueelaw01_ValueLaws.kept z0 hb, marqueelaw01_ValueLaws.kept z1 hb, marqueelaw01_ValueLaws.kept z2 hb⟩, Lib.hid ⟨h1.below hb, h2.trans (hb.mono h2.size)⟩⟩
theorem marqueelaw01_ValueLaws.on {a0 a1 : Int} {a2 : ByteArray} {b0 b1 : Int} {b2 : ByteArray} {c0 c1 : Int} {c2 : ByteArray} {p q r : Nat} {w W W' : World} (h : marqueelaw01_ValueLaws.F a0 a1 a2 b0 b1 b2 c0 c1 c2 p q r w W) (hb : Below W.heap.size W W') : marqueelaw01_ValueLaws.F a0 a1 a2 b0 b1 b2 c0 c1 c2 p q r w W' := by
  obtain ⟨⟨x0, x1, x2⟩, ⟨y0, y1, y2⟩, ⟨z0, z1, z2⟩, hh⟩ := h
  obtain ⟨h1, h2⟩ := hh.out
  exact ⟨⟨marqueelaw01_ValueLaws.kept x0 hb, marqueelaw01_ValueLaws.kept x1 hb, marqueelaw01_ValueLaws.kept x2 hb⟩, ⟨marqueelaw01_ValueLaws.kept y0 hb, marqueelaw01_ValueLaws.kept y1 hb, marqueelaw01_ValueLaws.kept y2 hb⟩, ⟨marqueelaw01_ValueLaws.kept z0 hb, marqueelaw01_ValueLaws.kept z1 hb, marqueelaw01_ValueLaws.kept z2 hb⟩, Lib.hid ⟨h1.below hb, h2.trans (hb.mono h2.size)⟩⟩
theorem marqueelaw01_ValueLaws.drawn {a0 a1 : Int} {a2 : ByteArray} {b0 b1 : Int} {b2 : ByteArray} {c0 c1 : Int} {c2 : ByteArray} {p q r : Nat} {w W : World} (h : marqueelaw01_ValueLaws.F a0 a1 a2 b0 b1 b2 c0 c1 c2 p q r w W) : marqueelaw01_ValueLaws.F a0 a1 a2 b0 b1 b2 c0 c1 c2 p q r w W.drew := marqueelaw01_ValueLaws.on h (below_drew1 (Below.refl _ _))
abbrev marqueelaw01_ValueLaws.box (a0 a1 : Int) (a2 : ByteArray) (b0 b1 : Int) (b2 : ByteArray) (c0 c1 : Int) (c2 : ByteArray) (w : World) : World := w.alloc (.cells #[.int .i64 a0, .int .i64 a1, .string a2, .int .i64 b0, .int .i64 b1, .string b2, .int .i64 c0, .int .i64 c1, .string c2] 29)
theorem marqueelaw01_ValueLaws.m {a0 a1 : Int} {a2 : ByteArray} {b0 b1 : Int} {b2 : ByteArray} {c0 c1 : Int} {c2 : ByteArray} {w : World} (hG : Hid (Laid w)) : marqueelaw01_ValueLaws.L a0 a1 a2 b0 b1 b2 c0 c1 c2 w (marqueelaw01_ValueLaws.box a0 a1 a2 b0 b1 b2 c0 c1 c2 w) := by
  have hb : Below w.heap.size w (marqueelaw01_ValueLaws.box a0 a1 a2 b0 b1 b2 c0 c1 c2 w) := (Below.refl _ _).alloc (Nat.le_refl _) _
  have hc := fun i => World.cell?_alloc_at (w := w) #[.int .i64 a0, .int .i64 a1, .string a2, .int .i64 b0, .int .i64 b1, .string b2, .int .i64 c0, .int .i64 c1, .string c2] 29 w.heap.size i rfl
  exact ⟨⟨hc 0, hc 1, hc 2⟩, ⟨hc 3, hc 4, hc 5⟩, ⟨hc 6, hc 7, hc 8⟩, Lib.hid ⟨hG.out.below hb, hb⟩⟩
theorem marqueelaw01_ValueLaws.m0 {a0 a1 : Int} {a2 : ByteArray} {b0 b1 : Int} {b2 : ByteArray} {c0 c1 : Int} {c2 : ByteArray} {w : World} (hG : Hid (Laid w)) : marqueelaw01_ValueLaws.L a0 a1 a2 b0 b1 b2 c0 c1 c2 w (marqueelaw01_ValueLaws.box a0 a1 a2 b0 b1 b2 c0 c1 c2 w).drew := marqueelaw01_ValueLaws.onL (marqueelaw01_ValueLaws.m hG) (below_drew1 (Below.refl _ _))
theorem marqueelaw01_ValueLaws.m1 {a0 a1 : Int} {a2 : ByteArray} {b0 b1 : Int} {b2 : ByteArray} {c0 c1 : Int} {c2 : ByteArray} {w : World} (X : Obj) (hG : Hid (Laid w)) : marqueelaw01_ValueLaws.L a0 a1 a2 b0 b1 b2 c0 c1 c2 w ((marqueelaw01_ValueLaws.box a0 a1 a2 b0 b1 b2 c0 c1 c2 w).alloc X).drew := marqueelaw01_ValueLaws.onL (marqueelaw01_ValueLaws.m hG) (below_drew1 ((Below.refl _ _).alloc (Nat.le_refl _) _))
theorem marqueelaw01_ValueLaws.m2 {a0 a1 : Int} {a2 : ByteArray} {b0 b1 : Int} {b2 : ByteArray} {c0 c1 : Int} {c2 : ByteArray} {w : World} (X Y : Obj) (hG : Hid (Laid w)) : marqueelaw01_ValueLaws.L a0 a1 a2 b0 b1 b2 c0 c1 c2 w (((marqueelaw01_ValueLaws.box a0 a1 a2 b0 b1 b2 c0 c1 c2 w).alloc X).alloc Y).drew := marqueelaw01_ValueLaws.onL (marqueelaw01_ValueLaws.m hG) (below_drew1 (((Below.refl _ _).alloc (Nat.le_refl _) _).alloc (by simp) _))
theorem marqueelaw01_ValueLaws.m3 {a0 a1 : Int} {a2 : ByteArray} {b0 b1 : Int} {b2 : ByteArray} {c0 c1 : Int} {c2 : ByteArray} {w : World} (X Y Z : Obj) (hG : Hid (Laid w)) : marqueelaw01_ValueLaws.L a0 a1 a2 b0 b1 b2 c0 c1 c2 w ((((marqueelaw01_ValueLaws.box a0 a1 a2 b0 b1 b2 c0 c1 c2 w).alloc X).alloc Y).alloc Z).drew := marqueelaw01_ValueLaws.onL (marqueelaw01_ValueLaws.m hG) (below_drew1 ((((Below.refl _ _).alloc (Nat.le_refl _) _).alloc (by simp) _).alloc (by simp) _))
/-- What the boxes hold, the three made in any order. -/
theorem marqueelaw01_ValueLaws.c1 {X Y Z : Array Value} {t : TypeId} {W : World} {x : Value} (n i : Nat) (hn : n = W.heap.size) (hX : X[i]? = some x) : ((((W.alloc (.cells X t)).alloc (.cells Y t)).alloc (.cells Z t)).drew).cell? ⟨n, i, none⟩ = some x :=
  ((World.cell?_alloc_past _ n i (by simp; omega)).trans (World.cell?_alloc_past _ n i (by simp; omega))).trans ((World.cell?_alloc_at X t n i hn).trans hX)
theorem marqueelaw01_ValueLaws.c2 {X Y Z : Array Value} {t : TypeId} {W : World} {x : Value} (n i : Nat) (hn : n = W.heap.size + 1) (hX : Y[i]? = some x) : ((((W.alloc (.cells X t)).alloc (.cells Y t)).alloc (.cells Z t)).drew).cell? ⟨n, i, none⟩ = some x :=
  (World.cell?_alloc_past _ n i (by simp; omega)).trans ((World.cell?_alloc_at Y t n i (by simp [hn])).trans hX)
theorem marqueelaw01_ValueLaws.c3 {X Y Z : Array Value} {t : TypeId} {W : World} {x : Value} (n i : Nat) (hn : n = W.heap.size + 2) (hX : Z[i]? = some x) : ((((W.alloc (.cells X t)).alloc (.cells Y t)).alloc (.cells Z t)).drew).cell? ⟨n, i, none⟩ = some x :=
  (World.cell?_alloc_at Z t n i (by simp [hn])).trans hX
set_option maxHeartbeats 8000000 in
set_option maxRecDepth 100000 in
/-- The walk: every call's answer given, the whole answers true. -/
theorem marqueelaw01_ValueLaws.walk (a0 a1 : Int) (a2 : ByteArray) (b0 b1 : Int) (b2 : ByteArray) (c0 c1 : Int) (c2 : ByteArray) (x0 x1 : Int) (x2 : ByteArray) (nx0 nx1 : Int) (nx2 : ByteArray) (na0 na1 : Int) (na2 : ByteArray) (nb0 nb1 : Int) (nb2 : ByteArray) (o0 o1 : Int) (o2 : ByteArray) (no0 no1 : Int) (no2 : ByteArray) (y0 y1 : Int) (y2 : ByteArray) (z0 z1 : Int) (z2 : ByteArray) (p0 p1 : Int) (p2 : ByteArray) (q0 q1 : Int) (q2 : ByteArray) (r0 r1 : Int) (r2 : ByteArray) (w : World) (hG : Laid w)
    (h0 : value_And.f a0 a1 a2 b0 b1 b2 = some (x0, x1, x2))
    (h1 : value_Not.f x0 x1 x2 = some (nx0, nx1, nx2))
    (h2 : value_Not.f a0 a1 a2 = some (na0, na1, na2))
    (h3 : value_Not.f b0 b1 b2 = some (nb0, nb1, nb2))
    (h4 : value_Or.f na0 na1 na2 nb0 nb1 nb2 = some (nx0, nx1, nx2))
    (h5 : value_Or.f a0 a1 a2 b0 b1 b2 = some (o0, o1, o2))
    (h6 : value_Not.f o0 o1 o2 = some (no0, no1, no2))
    (h7 : value_And.f na0 na1 na2 nb0 nb1 nb2 = some (no0, no1, no2))
    (h8 : value_And.f b0 b1 b2 a0 a1 a2 = some (x0, x1, x2))
    (h9 : value_Or.f b0 b1 b2 a0 a1 a2 = some (o0, o1, o2))
    (h10 : value_And.f b0 b1 b2 c0 c1 c2 = some (y0, y1, y2))
    (h11 : value_And.f a0 a1 a2 y0 y1 y2 = some (z0, z1, z2))
    (h12 : value_And.f x0 x1 x2 c0 c1 c2 = some (z0, z1, z2))
    (h13 : value_Or.f b0 b1 b2 c0 c1 c2 = some (p0, p1, p2))
    (h14 : value_And.f a0 a1 a2 p0 p1 p2 = some (q0, q1, q2))
    (h15 : value_And.f a0 a1 a2 c0 c1 c2 = some (r0, r1, r2))
    (h16 : value_Or.f x0 x1 x2 r0 r1 r2 = some (q0, q1, q2)) :
    Calls Tryd.prog 4 #[.agg #[.int .i64 a0, .int .i64 a1, .string a2, .int .i64 b0, .int .i64 b1, .string b2, .int .i64 c0, .int .i64 c1, .string c2]] w fun e w' => e = .returned (.bool true) ∧ Below w.heap.size w w' := by
  have HG := Lib.hid hG
  clear hG
  have H0 := Lib.hid h0
  have H1 := Lib.hid h1
  have H2 := Lib.hid h2
  have H3 := Lib.hid h3
  have H4 := Lib.hid h4
  have H5 := Lib.hid h5
  have H6 := Lib.hid h6
  have H7 := Lib.hid h7
  have H8 := Lib.hid h8
  have H9 := Lib.hid h9
  have H10 := Lib.hid h10
  have H11 := Lib.hid h11
  have H12 := Lib.hid h12
  have H13 := Lib.hid h13
  have H14 := Lib.hid h14
  have H15 := Lib.hid h15
  have H16 := Lib.hid h16
  clear h0 h1 h2 h3 h4 h5 h6 h7 h8 h9 h10 h11 h12 h13 h14 h15 h16
  go_enter Tryd.func4, Tryd.ntmps4
  go_upto_region 2 with fail
  go_cut [3, 4, 5] from 6 to 82 (fun x y z wx => ∃ p' q' r' : Nat, x = .pointer (some ⟨p', 0, none⟩) ∧ y = .pointer (some ⟨q', 0, none⟩) ∧ z = .pointer (some ⟨r', 0, none⟩) ∧ marqueelaw01_ValueLaws.F a0 a1 a2 b0 b1 b2 c0 c1 c2 p' q' r' w wx)
  case first =>
    go_region_held3 (fun W => marqueelaw01_ValueLaws.L a0 a1 a2 b0 b1 b2 c0 c1 c2 w W) (first | with_reducible exact marqueelaw01_ValueLaws.m0 HG | with_reducible exact marqueelaw01_ValueLaws.m1 _ HG | with_reducible exact marqueelaw01_ValueLaws.m2 _ _ HG | with_reducible exact marqueelaw01_ValueLaws.m3 _ _ _ HG) (fail)
    all_goals
      rename_i hL
      go_wp2_with fail
      go_meet
      refine ⟨_, _, _, rfl, rfl, rfl, ?_⟩
      refine ⟨⟨?_, ?_, ?_⟩, ⟨?_, ?_, ?_⟩, ⟨?_, ?_, ?_⟩, hL.2.2.2⟩
      all_goals first | with_reducible exact marqueelaw01_ValueLaws.c1 _ _ (by simp) rfl | with_reducible exact marqueelaw01_ValueLaws.c2 _ _ (by simp) rfl | with_reducible exact marqueelaw01_ValueLaws.c3 _ _ (by simp) rfl
  case rest =>
    obtain ⟨p', q', r', rfl, rfl, rfl, HF⟩ := hcut
    go_wp2_with fail
    simp only [List.append_eq, List.cons_append, List.nil_append]
    go_region_held3 (fun W => marqueelaw01_ValueLaws.F a0 a1 a2 b0 b1 b2 c0 c1 c2 p' q' r' w W) (first | with_reducible exact HF | with_reducible exact marqueelaw01_ValueLaws.drawn ‹_› | with_reducible exact marqueelaw01_ValueLaws.on ‹_› ‹_›) (first
      | (go_at_call 15; (with_reducible refine (value_And.calls a0 a1 a2 b0 b1 b2 x0 x1 x2 _ H0.out).mono ?_); rintro e w' ⟨rfl, hb⟩)
      | (go_at_call 14; (with_reducible refine (value_Not.calls x0 x1 x2 nx0 nx1 nx2 _ H1.out).mono ?_); rintro e w' ⟨rfl, hb⟩)
      | (go_at_call 14; (with_reducible refine (value_Not.calls a0 a1 a2 na0 na1 na2 _ H2.out).mono ?_); rintro e w' ⟨rfl, hb⟩)
      | (go_at_call 14; (with_reducible refine (value_Not.calls b0 b1 b2 nb0 nb1 nb2 _ H3.out).mono ?_); rintro e w' ⟨rfl, hb⟩)
      | (go_at_call 16; (with_reducible refine (value_Or.calls na0 na1 na2 nb0 nb1 nb2 nx0 nx1 nx2 _ H4.out).mono ?_); rintro e w' ⟨rfl, hb⟩)
      | (go_at_call 16; (with_reducible refine (value_Or.calls a0 a1 a2 b0 b1 b2 o0 o1 o2 _ H5.out).mono ?_); rintro e w' ⟨rfl, hb⟩)
      | (go_at_call 14; (with_reducible refine (value_Not.calls o0 o1 o2 no0 no1 no2 _ H6.out).mono ?_); rintro e w' ⟨rfl, hb⟩)
      | (go_at_call 15; (with_reducible refine (value_And.calls na0 na1 na2 nb0 nb1 nb2 no0 no1 no2 _ H7.out).mono ?_); rintro e w' ⟨rfl, hb⟩)
      | (go_at_call 15; (with_reducible refine (value_And.calls b0 b1 b2 a0 a1 a2 x0 x1 x2 _ H8.out).mono ?_); rintro e w' ⟨rfl, hb⟩)
      | (go_at_call 16; (with_reducible refine (value_Or.calls b0 b1 b2 a0 a1 a2 o0 o1 o2 _ H9.out).mono ?_); rintro e w' ⟨rfl, hb⟩)
      | (go_at_call 15; (with_reducible refine (value_And.calls b0 b1 b2 c0 c1 c2 y0 y1 y2 _ H10.out).mono ?_); rintro e w' ⟨rfl, hb⟩)
      | (go_at_call 15; (with_reducible refine (value_And.calls a0 a1 a2 y0 y1 y2 z0 z1 z2 _ H11.out).mono ?_); rintro e w' ⟨rfl, hb⟩)
      | (go_at_call 15; (with_reducible refine (value_And.calls x0 x1 x2 c0 c1 c2 z0 z1 z2 _ H12.out).mono ?_); rintro e w' ⟨rfl, hb⟩)
      | (go_at_call 16; (with_reducible refine (value_Or.calls b0 b1 b2 c0 c1 c2 p0 p1 p2 _ H13.out).mono ?_); rintro e w' ⟨rfl, hb⟩)
      | (go_at_call 15; (with_reducible refine (value_And.calls a0 a1 a2 p0 p1 p2 q0 q1 q2 _ H14.out).mono ?_); rintro e w' ⟨rfl, hb⟩)
      | (go_at_call 15; (with_reducible refine (value_And.calls a0 a1 a2 c0 c1 c2 r0 r1 r2 _ H15.out).mono ?_); rintro e w' ⟨rfl, hb⟩)
      | (go_at_call 16; (with_reducible refine (value_Or.calls x0 x1 x2 r0 r1 r2 q0 q1 q2 _ H16.out).mono ?_); rintro e w' ⟨rfl, hb⟩)
      | (go_at_call 13; (with_reducible refine (marqueelaw01_awake.calls true _ ?g rfl).mono ?_); (case g => exact (‹marqueelaw01_ValueLaws.F a0 a1 a2 b0 b1 b2 c0 c1 c2 p' q' r' w _›).2.2.2.out.1); rintro e w' ⟨rfl, hb⟩))
    all_goals
      rename_i hF
      go_wp2
      go_ret
      exact ⟨rfl, hF.2.2.2.out.2⟩
/-- What the law's calls must answer. -/
def marqueelaw01_ValueLaws.Says (a0_0 a0_1 : Int) (a0_2 : ByteArray) (a0_3 a0_4 : Int) (a0_5 : ByteArray) (a0_6 a0_7 : Int) (a0_8 : ByteArray) : Prop :=
  ∃ (x0 x1 : Int) (x2 : ByteArray) (nx0 nx1 : Int) (nx2 : ByteArray) (na0 na1 : Int) (na2 : ByteArray) (nb0 nb1 : Int) (nb2 : ByteArray) (o0 o1 : Int) (o2 : ByteArray) (no0 no1 : Int) (no2 : ByteArray) (y0 y1 : Int) (y2 : ByteArray) (z0 z1 : Int) (z2 : ByteArray) (p0 p1 : Int) (p2 : ByteArray) (q0 q1 : Int) (q2 : ByteArray) (r0 r1 : Int) (r2 : ByteArray), value_And.f a0_0 a0_1 a0_2 a0_3 a0_4 a0_5 = some (x0, x1, x2) ∧ value_Not.f x0 x1 x2 = some (nx0, nx1, nx2) ∧ value_Not.f a0_0 a0_1 a0_2 = some (na0, na1, na2) ∧ value_Not.f a0_3 a0_4 a0_5 = some (nb0, nb1, nb2) ∧ value_Or.f na0 na1 na2 nb0 nb1 nb2 = some (nx0, nx1, nx2) ∧ value_Or.f a0_0 a0_1 a0_2 a0_3 a0_4 a0_5 = some (o0, o1, o2) ∧ value_Not.f o0 o1 o2 = some (no0, no1, no2) ∧ value_And.f na0 na1 na2 nb0 nb1 nb2 = some (no0, no1, no2) ∧ value_And.f a0_3 a0_4 a0_5 a0_0 a0_1 a0_2 = some (x0, x1, x2) ∧ value_Or.f a0_3 a0_4 a0_5 a0_0 a0_1 a0_2 = some (o0, o1, o2) ∧ value_And.f a0_3 a0_4 a0_5 a0_6 a0_7 a0_8 = some (y0, y1, y2) ∧ value_And.f a0_0 a0_1 a0_2 y0 y1 y2 = some (z0, z1, z2) ∧ value_And.f x0 x1 x2 a0_6 a0_7 a0_8 = some (z0, z1, z2) ∧ value_Or.f a0_3 a0_4 a0_5 a0_6 a0_7 a0_8 = some (p0, p1, p2) ∧ value_And.f a0_0 a0_1 a0_2 p0 p1 p2 = some (q0, q1, q2) ∧ value_And.f a0_0 a0_1 a0_2 a0_6 a0_7 a0_8 = some (r0, r1, r2) ∧ value_Or.f x0 x1 x2 r0 r1 r2 = some (q0, q1, q2)
open Classical in
noncomputable def marqueelaw01_ValueLaws.f (a0_0 a0_1 : Int) (a0_2 : ByteArray) (a0_3 a0_4 : Int) (a0_5 : ByteArray) (a0_6 a0_7 : Int) (a0_8 : ByteArray) : Option Bool := if marqueelaw01_ValueLaws.Says a0_0 a0_1 a0_2 a0_3 a0_4 a0_5 a0_6 a0_7 a0_8 then some true else none
theorem marqueelaw01_ValueLaws.calls (a0_0 a0_1 : Int) (a0_2 : ByteArray) (a0_3 a0_4 : Int) (a0_5 : ByteArray) (a0_6 a0_7 : Int) (a0_8 : ByteArray) (r : Bool) (w : World) (hG : Laid w) (h : marqueelaw01_ValueLaws.f a0_0 a0_1 a0_2 a0_3 a0_4 a0_5 a0_6 a0_7 a0_8 = some r) :
    Calls Tryd.prog 4 #[.agg #[.int .i64 a0_0, .int .i64 a0_1, .string a0_2, .int .i64 a0_3, .int .i64 a0_4, .string a0_5, .int .i64 a0_6, .int .i64 a0_7, .string a0_8]] w fun e w' => e = .returned (.bool r) ∧ Below w.heap.size w w' := by
  unfold marqueelaw01_ValueLaws.f at h
  by_cases hc : marqueelaw01_ValueLaws.Says a0_0 a0_1 a0_2 a0_3 a0_4 a0_5 a0_6 a0_7 a0_8
  · rw [if_pos hc] at h
    obtain rfl := Option.some.inj h
    obtain ⟨x0, x1, x2, nx0, nx1, nx2, na0, na1, na2, nb0, nb1, nb2, o0, o1, o2, no0, no1, no2, y0, y1, y2, z0, z1, z2, p0, p1, p2, q0, q1, q2, r0, r1, r2, h0, h1, h2, h3, h4, h5, h6, h7, h8, h9, h10, h11, h12, h13, h14, h15, h16⟩ := hc
    exact marqueelaw01_ValueLaws.walk _ _ _ _ _ _ _ _ _ _ _ _ _ _ _ _ _ _ _ _ _ _ _ _ _ _ _ _ _ _ _ _ _ _ _ _ _ _ _ _ _ _ w hG h0 h1 h2 h3 h4 h5 h6 h7 h8 h9 h10 h11 h12 h13 h14 h15 h16
  · rw [if_neg hc] at h
    exact absurd h (by simp)

end Go.Proofs.YthfialcaddjjaaaDoor.PValueLaws
