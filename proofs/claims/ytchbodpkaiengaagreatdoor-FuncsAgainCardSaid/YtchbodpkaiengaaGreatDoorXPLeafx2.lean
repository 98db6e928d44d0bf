/- A part of the proof of this claim. No condition beyond those that each theorem names. -/
import Derived.Test.YtchbodpkaiengaaGreatDoorXPLeafx0
namespace Go.Proofs.YtchbodpkaiengaaGreatDoor.PLeaf
open Go.RowKit Go.Proofs.YtchbodpkaiengaaGreatDoorW.PrintWords Go.Proofs.YtchbodpkaiengaaGreatDoorW.PrintLast Go.Proofs.YtchbodpkaiengaaGreatDoorW.PrintMore
attribute [local go_sem] max2_int min2_int max_two min_two max_three min_three max_four min_four
set_option linter.unusedVariables false
set_option linter.unusedSimpArgs false
def funcs_piece.pts (s : ByteArray) : Nat → Nat → List Int
  | 0, _ => []
  | n + 1, i => if i < s.size then Int.ofNat (Utf8.decode s i).1 :: funcs_piece.pts s n (i + (Utf8.decode s i).2) else []
theorem funcs_piece.pts_runes (s : ByteArray) : ∀ (n i : Nat) (acc : Array Value), Conv.runesFrom s n i acc = acc ++ ((funcs_piece.pts s n i).map (Value.int .i32)).toArray
  | 0, i, acc => by simp [Conv.runesFrom, funcs_piece.pts]
  | n + 1, i, acc => by
    unfold Conv.runesFrom funcs_piece.pts
    split
    · have := funcs_piece.pts_runes s n (i + (Utf8.decode s i).2) (acc.push (.int .i32 (Int.ofNat (Utf8.decode s i).1)))
      refine this.trans ?_
      simp
    · simp
def funcs_piece.from_ (l : List Int) (a1 : Int) : Nat := (min (max a1 0) (l.length : Int)).toNat
def funcs_piece.cnt (l : List Int) (a1 a2 : Int) : Nat := (min (max a2 0) ((l.length : Int) - min (max a1 0) (l.length : Int))).toNat
def funcs_piece.g (s : ByteArray) (a1 a2 : Int) : ByteArray :=
  runesBytes (((funcs_piece.pts s s.size 0).drop (funcs_piece.from_ (funcs_piece.pts s s.size 0) a1)).take (funcs_piece.cnt (funcs_piece.pts s s.size 0) a1 a2))
def funcs_piece.f (a0 : ByteArray) (a1 a2 : Int) : Option ByteArray := if a0.size ≤ 70368744177664 then (if -9223372036854775808 ≤ a1 then (if a1 ≤ 9223372036854775807 then (if -9223372036854775808 ≤ a2 then (if a2 ≤ 9223372036854775807 then some (funcs_piece.g a0 a1 a2) else none) else none) else none) else none) else none
theorem funcs_piece.pts_len (s : ByteArray) : ∀ (n i : Nat), (funcs_piece.pts s n i).length ≤ n
  | 0, i => by simp [funcs_piece.pts]
  | n + 1, i => by
    unfold funcs_piece.pts
    split
    · have := funcs_piece.pts_len s n (i + (Utf8.decode s i).2)
      simp; omega
    · simp
set_option maxHeartbeats 4000000 in
set_option maxRecDepth 100000 in
theorem funcs_piece.calls (a0 : ByteArray) (a1 a2 : Int) (r : ByteArray) (w : World) (h : funcs_piece.f a0 a1 a2 = some r) :
    Calls Tryz.prog 57 #[.string a0, .int .i64 a1, .int .i64 a2] w fun e w' => e = .returned (.string r) ∧ Below w.heap.size w w' := by
  unfold funcs_piece.f at h
  split at h; rotate_left; · cases h
  split at h; rotate_left; · cases h
  split at h; rotate_left; · cases h
  split at h; rotate_left; · cases h
  split at h; rotate_left; · cases h
  rename_i hs c1 c2 d1 d2
  obtain rfl := Option.some.inj h
  clear h
  unfold funcs_piece.g funcs_piece.from_ funcs_piece.cnt
  obtain ⟨l, hl⟩ : ∃ l, l = funcs_piece.pts a0 a0.size 0 := ⟨_, rfl⟩
  have hlen : l.length ≤ a0.size := by rw [hl]; exact funcs_piece.pts_len _ _ _
  have hrun : Conv.runesFrom a0 a0.size 0 #[] = (l.map (Value.int .i32)).toArray := by rw [funcs_piece.pts_runes, hl]; simp
  have hconv := run_runes_of_string (P := Tryz.prog) w 9 101 21 a0 Tryz.underlying9 Tryz.underlying101 Tryz.underlying21 (by rw [hrun]; simp; omega)
  rw [← hl]
  rw [hrun] at hconv
  simp only [List.size_toArray, List.length_map] at hconv
  obtain ⟨cap, hc⟩ : ∃ cap, cap = grownCap w l.length 0 21 := ⟨_, rfl⟩
  have hcl : l.length ≤ cap := by rw [hc]; exact grownCap_ge _ _ _ _
  rw [← hc] at hconv
  obtain ⟨W, hW⟩ : ∃ W, W = w.drew.alloc (.cells ((l.map (Value.int .i32)).toArray ++ Array.replicate (cap - l.length) (.int .i32 0)) 21) := ⟨_, rfl⟩
  rw [← hW] at hconv
  have hbel : Below w.heap.size w W := by rw [hW]; exact (below_drew1 (Below.refl _ _)).alloc (by simp) _
  have hcell : ∀ j, j < l.length → W.cell? ⟨w.heap.size, j, none⟩ = some (.int .i32 (l.getD j 0)) := by
    intro j hj
    rw [hW]
    refine (World.cell?_alloc_new w.drew ((l.map (Value.int .i32)).toArray ++ Array.replicate (cap - l.length) (.int .i32 0)) 21 j).trans ?_
    simp [List.getD, hj, Array.getElem?_append_left]
  have HB := Lib.hid hbel
  have HC := Lib.hid hcell
  obtain ⟨p, hp⟩ : ∃ p : Nat, (p : Int) = min (max a1 0) (l.length : Int) := ⟨(min (max a1 0) (l.length : Int)).toNat, by omega⟩
  obtain ⟨q, hq⟩ : ∃ q : Nat, (q : Int) = min (max a2 0) ((l.length : Int) - (p : Int)) := ⟨(min (max a2 0) ((l.length : Int) - (p : Int))).toNat, by omega⟩
  rw [← hp, ← hq]
  have hpl : p ≤ l.length := by omega
  have hql : p + q ≤ l.length := by omega
  simp only [Int.toNat_natCast]
  clear hl hrun hW hbel hcell hc
  have hback : ∀ (o n c : Nat), o + n ≤ l.length → (convert 101 9 (.slice (some ⟨w.heap.size, o, none⟩) n c)).run Tryz.prog W = .ok (.string (runesBytes ((l.drop o).take n))) W := by
    intro o n c hon
    exact run_convert_runes (P := Tryz.prog) W 101 9 21 ⟨w.heap.size, o, none⟩ n c (l.drop o) (by simp; omega) Tryz.underlying101 Tryz.underlying21 Tryz.underlying9 (fun j hj => by
      simp at hj
      have ha : (Addr.add ⟨w.heap.size, o, none⟩ j) = ⟨w.heap.size, o + j, none⟩ := by unfold Addr.add; split <;> simp_all
      rw [ha, HC.out (o + j) (by omega)]
      simp [List.getD])
  have c1' : (a1 < 0 ∧ p = 0) ∨ (0 ≤ a1 ∧ a1 ≤ l.length ∧ a1 = p) ∨ ((l.length : Int) < a1 ∧ p = l.length) := by omega
  have c2' : (a2 < 0 ∧ q = 0) ∨ (0 ≤ a2 ∧ a2 ≤ (l.length : Int) - p ∧ a2 = q) ∨ ((l.length : Int) - p < a2 ∧ q = l.length - p) := by omega
  clear hp hq
  have hback0 : cap = p → (convert 101 9 (.slice (some ⟨w.heap.size, 0, none⟩) q 0)).run Tryz.prog W = .ok (.string (runesBytes ((l.drop p).take q))) W := by
    intro hcp
    have hq0 : q = 0 := by omega
    subst hq0
    have := hback 0 0 0 (by omega)
    simpa using this
  have hb := hback p q (cap - p) hql
  clear hback
  have cwp : cap = p ∨ (cap = p) = False := by by_cases e : cap = p <;> simp [e]
  obtain ⟨n, hn⟩ : ∃ n, n = l.length := ⟨_, rfl⟩
  rw [← hn] at c1' c2' hpl hql hlen hcl hconv
  clear HC
  obtain ⟨res, hres⟩ : ∃ res, res = runesBytes ((l.drop p).take q) := ⟨_, rfl⟩
  rw [← hres] at hb hback0 ⊢
  clear hres hn
  rcases cwp with hcp | hcp
  · have hb0 := hback0 hcp
    clear hback0 hb
    have hq0 : q = 0 := by omega
    have hnp : n = p := by omega
    subst hq0
    subst hnp
    have c1'' : (a1 < 0 ∧ n = 0) ∨ (n : Int) = a1 ∨ (n : Int) < a1 := by omega
    have c2'' : a2 < 0 ∨ a2 = 0 ∨ 0 < a2 := by omega
    have hn9 : (n : Int) ≤ 9223372036854775807 := by omega
    clear c1' c2' hql hpl hcl
    rcases c1'' with ⟨k1, rfl⟩ | rfl | k1
    all_goals subst hcp
    all_goals rcases c2'' with k2 | rfl | k2
    all_goals
      go_enter Tryz.func57, Tryz.ntmps57
      go_wp2
      go_ret
      exact ⟨rfl, HB.out⟩
  · clear hback0
    have hn9 : (n : Int) ≤ 9223372036854775807 := by omega
    rcases c1' with ⟨k1, rfl⟩ | ⟨k1, k1', rfl⟩ | ⟨k1, rfl⟩
    · simp only [Nat.sub_zero] at hb
      rcases c2' with ⟨k2, rfl⟩ | ⟨k2, k2', rfl⟩ | ⟨k2, rfl⟩
      all_goals try simp only [Nat.sub_zero, Int.natCast_zero, Int.sub_zero] at hb
      all_goals try simp only [Nat.sub_zero, Int.natCast_zero, Int.sub_zero] at k2
      all_goals try simp only [Nat.sub_zero, Int.natCast_zero, Int.sub_zero] at k2'
      all_goals
        go_enter Tryz.func57, Tryz.ntmps57
        go_wp2
        go_ret
        exact ⟨rfl, HB.out⟩
    · rcases c2' with ⟨k2, rfl⟩ | ⟨k2, k2', rfl⟩ | ⟨k2, rfl⟩
      · go_enter Tryz.func57, Tryz.ntmps57
        go_wp2
        go_ret
        exact ⟨rfl, HB.out⟩
      · have k3 : (p : Int) + q ≤ n := by omega
        go_enter Tryz.func57, Tryz.ntmps57
        go_wp2
        go_ret
        exact ⟨rfl, HB.out⟩
      · have hpn : (p : Int) ≤ n := by omega
        obtain ⟨q, rfl⟩ : ∃ q, n = p + q := ⟨n - p, by omega⟩
        rw [Nat.add_sub_cancel_left] at hb
        have k5 : ((p + q : Nat) : Int) - p = (q : Int) := by omega
        rw [k5] at k2
        go_enter Tryz.func57, Tryz.ntmps57
        go_wp2
        go_ret
        exact ⟨rfl, HB.out⟩
    · have hq0 : q = 0 := by omega
      subst hq0
      have c2'' : a2 < 0 ∨ a2 = 0 ∨ 0 < a2 := by omega
      clear c2' hql hpl
      rcases c2'' with k2 | rfl | k2
      all_goals
        go_enter Tryz.func57, Tryz.ntmps57
        go_wp2
        go_ret
        exact ⟨rfl, HB.out⟩
def utf8_RuneCountInString.f (a0 : ByteArray) : Option Int := if a0.size < 9223372036854775807 then some (Lib.runeCount a0 : Nat) else none
theorem utf8_RuneCountInString.calls (a0 : ByteArray) (r : Int) (w : World) (h : utf8_RuneCountInString.f a0 = some r) :
    Calls Tryz.prog 53 #[.string a0] w fun e w' => e = .returned (.int .i64 r) ∧ Below w.heap.size w w' := by
  unfold utf8_RuneCountInString.f at h
  split at h; rotate_left; · cases h
  rename_i h1
  obtain rfl := Option.some.inj h
  refine (Tryz.utf8_RuneCountInString a0 w h1).mono ?_
  rintro e w' ⟨rfl, pos, rfl⟩
  exact ⟨rfl, (Below.refl _ _).alloc (Nat.le_refl _) _⟩
def utf8_ValidString.f (a0 : ByteArray) : Option Bool := if a0.size ≤ 9223372036854775807 then some (Lib.validD a0.data.toList) else none
theorem utf8_ValidString.calls (a0 : ByteArray) (r : Bool) (w : World) (hG : Laid w) (h : utf8_ValidString.f a0 = some r) :
    Calls Tryz.prog 44 #[.string a0] w fun e w' => e = .returned (.bool r) ∧ Below w.heap.size w w' := by
  unfold utf8_ValidString.f at h
  split at h; rotate_left; · cases h
  rename_i h1
  obtain rfl := Option.some.inj h
  exact Tryz.utf8_ValidString a0 w h1 hG.2
def funcs_cased.one (lo hi d : Int) (c : UInt8) : UInt8 := if lo ≤ (c.toNat : Int) ∧ (c.toNat : Int) ≤ hi then UInt8.ofNat (((c.toNat : Int) + d) % 256).toNat else c
def funcs_cased.g (lo hi d : Int) (s : ByteArray) : ByteArray := ⟨(s.data.toList.map (funcs_cased.one lo hi d)).toArray⟩
def funcs_cased.f (a0 : ByteArray) (a1 a2 a3 : Int) : Option ByteArray := if a0.size ≤ 9223372036854775807 then (if -1000 ≤ a3 then (if a3 ≤ 1000 then some (funcs_cased.g a1 a2 a3 a0) else none) else none) else none
def funcs_cased.R (lo hi d : Int) (s : ByteArray) (w : World) (k : Nat) (wr : World) : Prop :=
  Below w.heap.size w wr ∧ w.heap.size < wr.heap.size ∧
  (∀ j, j < s.size → wr.cell? ⟨w.heap.size, j, none⟩ = some (.int .u8 (if j < k then ((funcs_cased.one lo hi d (s.data.toList.getD j 0)).toNat : Int) else ((s.data.toList.getD j 0).toNat : Int)))) ∧
  (∀ j, j < s.size → wr.frozen? ⟨w.heap.size, j, none⟩ = false)
theorem funcs_cased.start (lo hi d : Int) (s : ByteArray) (w : World) : funcs_cased.R lo hi d s w 0 (Lib.bytesWorld w 5 s) := by
  refine ⟨⟨?_, ?_, ?_, ?_, ?_⟩, by rw [Lib.bytesWorld_size]; omega, fun j hj => ?_, fun j hj => ?_⟩
  · simp [Lib.bytesWorld, World.freeze, World.alloc, World.drew, -World.alloc_eq, -World.drew_eq]
  · simp [Lib.bytesWorld, World.freeze, World.alloc, World.drew, -World.alloc_eq, -World.drew_eq]
  · simp [Lib.bytesWorld, World.freeze, World.alloc, World.drew, -World.alloc_eq, -World.drew_eq]
  · rw [Lib.bytesWorld_size]; omega
  · exact fun k hk => Lib.bytesWorld_at_old w _ s k hk
  · rw [Lib.bytesWorld_cell w _ s j hj, if_neg (by omega)]
  · unfold World.frozen?
    rw [Lib.bytesWorld_at_new]
    have : (Lib.bytesCells w 5 s).size = s.size + (grownCap w s.size 0 5 - s.size) := by
      unfold Lib.bytesCells
      simp
    simp
    omega
theorem funcs_cased.keep {lo hi d : Int} {s : ByteArray} {w : World} {k : Nat} {wr : World} (h : funcs_cased.R lo hi d s w k wr) (hk : k < s.size)
    (hn : ¬ (lo ≤ ((s.data.toList.getD k 0).toNat : Int) ∧ ((s.data.toList.getD k 0).toNat : Int) ≤ hi)) : funcs_cased.R lo hi d s w (k + 1) wr := by
  obtain ⟨h1, h2, h3, h4⟩ := h
  refine ⟨h1, h2, fun j hj => ?_, h4⟩
  rw [h3 j hj]
  by_cases e : j = k
  · subst e
    rw [if_neg (by omega), if_pos (by omega)]
    unfold funcs_cased.one
    rw [if_neg hn]
  · by_cases e2 : j < k
    · rw [if_pos e2, if_pos (by omega)]
    · rw [if_neg e2, if_neg (by omega)]
theorem funcs_cased.put {lo hi d : Int} {s : ByteArray} {w : World} {k : Nat} {wr : World} (h : funcs_cased.R lo hi d s w k wr) (hk : k < s.size)
    (hn : lo ≤ ((s.data.toList.getD k 0).toNat : Int) ∧ ((s.data.toList.getD k 0).toNat : Int) ≤ hi) :
    funcs_cased.R lo hi d s w (k + 1) (wr.setCell ⟨w.heap.size, k, none⟩ (.int .u8 ((((s.data.toList.getD k 0).toNat : Int) + d) % 256))) := by
  obtain ⟨h1, h2, h3, h4⟩ := h
  refine ⟨h1.setCell (by simp) _, by simpa using h2, fun j hj => ?_, fun j hj => ?_⟩
  · by_cases e : j = k
    · subst e
      rw [if_pos (by omega), World.cell?_setCell_same _ _ _ (h3 j hj)]
      unfold funcs_cased.one
      rw [if_pos hn]
      congr 2
      have : ((((s.data.toList.getD j 0).toNat : Int) + d) % 256).toNat < 256 := by omega
      simp [UInt8.toNat_ofNat']
      omega
    · rw [World.cell?_setCell_other _ _ _ _ (fun he => e (by simpa using (congrArg Addr.off he).symm)), h3 j hj]
      by_cases e2 : j < k
      · rw [if_pos e2, if_pos (by omega)]
      · rw [if_neg e2, if_neg (by omega)]
  · rw [World.frozen?_setCell]
    exact h4 j hj
set_option maxHeartbeats 4000000 in
theorem funcs_cased.calls (a0 : ByteArray) (a1 a2 a3 : Int) (r : ByteArray) (w : World) (h : funcs_cased.f a0 a1 a2 a3 = some r) :
    Calls Tryz.prog 55 #[.string a0, .int .u8 a1, .int .u8 a2, .int .i64 a3] w fun e w' => e = .returned (.string r) ∧ Below w.heap.size w w' := by
  unfold funcs_cased.f at h
  split at h; rotate_left; · cases h
  split at h; rotate_left; · cases h
  split at h; rotate_left; · cases h
  rename_i hs d1 d2
  obtain rfl := Option.some.inj h
  clear h
  have hconv := Lib.run_convert_string_bytes (P := Tryz.prog) w 9 76 5 a0 Tryz.underlying9 Tryz.underlying76 Tryz.underlying5
  have H0 := funcs_cased.start a1 a2 a3 a0 w
  obtain ⟨W, hW⟩ : ∃ W, W = Lib.bytesWorld w 5 a0 := ⟨_, rfl⟩
  obtain ⟨cap, hc⟩ : ∃ cap, cap = grownCap w a0.size 0 5 := ⟨_, rfl⟩
  rw [← hW, ← hc] at hconv
  rw [← hW] at H0
  have H := Lib.hid H0
  clear hW hc H0
  go_enter Tryz.func55, Tryz.ntmps55
  go_wp2
  go_loopw [16] (fun i wr => ∃ k : Nat, k ≤ a0.size ∧ i = .int .i64 k ∧ funcs_cased.R a1 a2 a3 a0 w k wr) (fun i _ => a0.size - (intOf i).toNat)
  case atStart => exact ⟨0, Nat.zero_le _, rfl, H.out⟩
  case round =>
    obtain ⟨k, hk, rfl, hR⟩ := hrel
    have HR := Lib.hid hR
    clear hR
    by_cases hlt : k < a0.size
    · have hcell := HR.out.2.2.1 k hlt
      rw [if_neg (by omega)] at hcell
      have hfz := HR.out.2.2.2 k hlt
      obtain ⟨c, hcc⟩ : ∃ c, c = a0.data.toList.getD k 0 := ⟨_, rfl⟩
      rw [← hcc] at hcell
      have hcb : (c.toNat : Int) ≤ 255 := by have := c.toNat_lt; omega
      have HC := Lib.hid hcc
      clear hcc
      by_cases t1 : a1 ≤ (c.toNat : Int)
      · by_cases t2 : (c.toNat : Int) ≤ a2
        · have HP := Lib.hid (funcs_cased.put HR.out hlt (by rw [← HC.out]; exact ⟨t1, t2⟩))
          rw [← HC.out] at HP
          go_wp2
          go_roundw
          case rel => exact ⟨k + 1, by omega, by go_num, HP.out⟩
          case measure => simp [intOf]; omega
        · have HP := Lib.hid (funcs_cased.keep HR.out hlt (by rw [← HC.out]; exact fun h => t2 h.2))
          go_wp2
          go_roundw
          case rel => exact ⟨k + 1, by omega, by go_num, HP.out⟩
          case measure => simp [intOf]; omega
      · have HP := Lib.hid (funcs_cased.keep HR.out hlt (by rw [← HC.out]; exact fun h => t1 h.1))
        go_wp2
        go_roundw
        case rel => exact ⟨k + 1, by omega, by go_num, HP.out⟩
        case measure => simp [intOf]; omega
    · obtain rfl : k = a0.size := by omega
      have hlen : (a0.data.toList.map (funcs_cased.one a1 a2 a3)).length = a0.size := by simp
      have hback := run_convert_bytes_back (P := Tryz.prog) wr 76 9 5 ⟨w.heap.size, 0, none⟩ cap (a0.data.toList.map (funcs_cased.one a1 a2 a3)) Tryz.underlying76 Tryz.underlying5 Tryz.underlying9 (fun j hj => by
        rw [hlen] at hj
        have := HR.out.2.2.1 j hj
        rw [if_pos hj] at this
        have ha : (Addr.add ⟨w.heap.size, 0, none⟩ j) = ⟨w.heap.size, j, none⟩ := by unfold Addr.add; split <;> simp_all
        rw [ha, this]
        simp [List.getD, hj])
      rw [hlen] at hback
      go_wp2
      go_ret
      exact ⟨rfl, HR.out.1⟩
def strings_Trim.f (a0 a1 : ByteArray) : Option ByteArray := if a1 = ⟨#[32]⟩ then (if a0.size ≤ 9223372036854775807 then some ⟨(Lib.trimB a0.data.toList 32).toArray⟩ else none) else none
theorem strings_Trim.calls (a0 a1 : ByteArray) (r : ByteArray) (w : World) (h : strings_Trim.f a0 a1 = some r) :
    Calls Tryz.prog 56 #[.string a0, .string a1] w fun e w' => e = .returned (.string r) ∧ Drawn0 w w' := by
  unfold strings_Trim.f at h
  split at h; rotate_left; · cases h
  split at h; rotate_left; · cases h
  rename_i h1 h2
  obtain rfl := Option.some.inj h
  subst h1
  refine (Tryz.strings_Trim_one a0 32 (by decide) w h2).mono ?_
  rintro e w' ⟨rfl, rfl | rfl⟩
  · exact ⟨rfl, Drawn0.refl _⟩
  · exact ⟨rfl, ⟨⟨1, rfl⟩⟩⟩
end Go.Proofs.YtchbodpkaiengaaGreatDoor.PLeaf
