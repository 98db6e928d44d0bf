/- A part of the proof of this claim. No condition beyond those that each theorem names. -/
import Derived.Test.YtchbodpkaiengaaGreatDoorXRunAgainF
import Derived.Test.YtchbodpkaiengaaGreatDoorXRunAgainT
import Derived.Test.YtchbodpkaiengaaGreatDoorXRunAgainV
import Derived.Test.YtchbodpkaiengaaGreatDoorXAgain1
namespace Go.Proofs.YtchbodpkaiengaaGreatDoor.funcsAgain
open Go Go.Proofs Go.Proofs.YtchbodpkaiengaaGreatDoorDx Go.Proofs.YtchbodpkaiengaaGreatDoor Go.Proofs.YtchbodpkaiengaaGreatDoor.PLeaf Go.Proofs.YtchbodpkaiengaaGreatDoor.Apps
open Go.Proofs.YtchbodpkaiengaaGreatDoorU8 (Scal u8s enc)
set_option linter.unusedVariables false
set_option linter.unusedSimpArgs false
theorem names (apps : List App) (facts : List Fact) : ∀ f fn, (cfgS Tryz.prog 0 0 (eqsOf Tryz.prog) (appsP apps) facts (fun _ _ => none)).fns f = some fn → (fn.name == "runtime.NumGoroutine") = false := by
  have h : (Tryz.prog.funcs.toList.all fun fn => !(fn.name == "runtime.NumGoroutine")) = true := by kernel_rfl
  intro f fn hf
  have hm : fn ∈ Tryz.prog.funcs.toList := by
    have hf' : Tryz.prog.funcs[f]? = some fn := hf
    simpa using Array.mem_of_getElem? hf'
  simpa using List.all_eq_true.1 h fn hm
@[reducible] def eta (s u l t : ByteArray) (n : Int) : Eta := ⟨fun i => [Value.string s, .int .i64 n, .string u, .string l, .string t, .int .i64 s.data.toList.length, .int .i64 t.data.toList.length,
  .int .i64 (n.tdiv 10000), .int .i64 (n.tmod 10000), .int .i64 (-(n.tmod 10000)), .int .i64 (n.tdiv 10000 + 1), .int .i64 (n.tdiv 10000 - 1), .int .i64 (IntKind.i64.wrap (0 - n))].getD i undef⟩
theorem wrap_id {n : Int} (h : -9223372036854775808 ≤ n ∧ n ≤ 9223372036854775807) : IntKind.i64.wrap n = n := by rw [IntKind.wrap_i64]; omega
section
variable (s u l t : ByteArray) (n : Int)
theorem factsN_ok (c : Cfg) (hc : ∀ x y, eqD c 20 tV (.agg #[.int .i64 3, .int .i64 x, .string ⟨#[]⟩]) (.agg #[.int .i64 3, .int .i64 y, .string ⟨#[]⟩]) = some ((3 == (3 : Int)) && ((x == y) && eqU (⟨#[]⟩ : ByteArray).data.toList (⟨#[]⟩ : ByteArray).data.toList)))
    (hn : -9223372036854775808 ≤ n ∧ n ≤ 9223372036854775807) (b1 b2 b3 b4 b5 b6 b7 b8 : Bool) (h1 : b1 = decide (n.tmod 10000 > 0)) (h2 : b2 = decide (n.tmod 10000 ≥ 5000)) (h3 : b3 = decide (n.tmod 10000 < 0)) (h4 : b4 = decide (-(n.tmod 10000) ≥ 5000))
    (h5 : b5 = (n.tmod 10000 == 0)) (h6 : b6 = (n == -9223372036854775808)) (h7 : b7 = decide (n < 0)) (h8 : b8 = decide (n > 0)) :
    letI : Eta := eta s u l t n
    ∀ p ∈ factsN b1 b2 b3 b4 b5 b6 b7 b8, evF c p.f (p.xs.map sub) = some (sub0 p.r) := by
  letI : Eta := eta s u l t n
  obtain ⟨q1, q2, q3, q4, q5⟩ := Pure.quot n
  have s1 : sub (tk 1) = .int .i64 n := rfl
  have s7 : sub (tk 7) = .int .i64 (n.tdiv 10000) := rfl
  have s8 : sub (tk 8) = .int .i64 (n.tmod 10000) := rfl
  have s9 : sub (tk 9) = .int .i64 (-(n.tmod 10000)) := rfl
  have s10 : sub (tk 10) = .int .i64 (n.tdiv 10000 + 1) := rfl
  have s11 : sub (tk 11) = .int .i64 (n.tdiv 10000 - 1) := rfl
  have s12 : sub (tk 12) = .int .i64 (IntKind.i64.wrap (0 - n)) := rfl
  have t1 : sub0 (tk 1) = .int .i64 n := rfl
  have t7 : sub0 (tk 7) = .int .i64 (n.tdiv 10000) := rfl
  have t8 : sub0 (tk 8) = .int .i64 (n.tmod 10000) := rfl
  have t9 : sub0 (tk 9) = .int .i64 (-(n.tmod 10000)) := rfl
  have t10 : sub0 (tk 10) = .int .i64 (n.tdiv 10000 + 1) := rfl
  have t11 : sub0 (tk 11) = .int .i64 (n.tdiv 10000 - 1) := rfl
  have t12 : sub0 (tk 12) = .int .i64 (IntKind.i64.wrap (0 - n)) := rfl
  have k : ∀ z : Int, sub (i64 z) = .int .i64 z := fun z => rfl
  have k0 : ∀ z : Int, sub0 (i64 z) = .int .i64 z := fun z => rfl
  have hab : ∃ z : Int, sub (ab b7) = .int .i64 z ∧ sub (.agg #[i64 3, ab b7, e0]) = .agg #[.int .i64 3, .int .i64 z, .string ⟨#[]⟩] ∧ z = (if n < 0 then IntKind.i64.wrap (0 - n) else n) := by
    subst h7
    by_cases h : n < 0
    · simp only [h, decide_true, if_true]
      exact ⟨_, rfl, rfl, rfl⟩
    · simp only [h, decide_false, if_false]
      exact ⟨_, rfl, rfl, rfl⟩
  obtain ⟨z, sa, sv, hz⟩ := hab
  have hw : IntKind.i64.wrap (0 - n) = if n = -9223372036854775808 then n else -n := by
    rw [IntKind.wrap_i64]
    split <;> omega
  have w0 := wrap_id (n := n.tdiv 10000) (by omega)
  have w1 := wrap_id (n := n.tdiv 10000 + 1) (by omega)
  have w2 := wrap_id (n := n.tdiv 10000 - 1) (by omega)
  have w3 := wrap_id (n := 0 - n.tmod 10000) (by omega)
  intro p hp
  simp only [factsN, List.mem_cons, List.not_mem_nil, or_false] at hp
  rcases hp with rfl | rfl | rfl | rfl | rfl | rfl | rfl | rfl | rfl | rfl | rfl | rfl | rfl | rfl | rfl | rfl | rfl | rfl | rfl | rfl | rfl | rfl | rfl | rfl | rfl | rfl | rfl | rfl | rfl | rfl | rfl | rfl | rfl | rfl
  · simp [evF, List.map, s1, k, t7, isI, binD, intOp, w0]
  · simp [evF, List.map, s1, k, t8, isI, binD, intOp]
  · simp [evF, List.map, s8, k, isI, binD, intOp, sub0, h1]
  · simp [evF, List.map, s8, k, isI, binD, intOp, sub0, h2]
  · simp [evF, List.map, s8, k, isI, binD, intOp, sub0, h3]
  · simp only [evF, List.map, s8, t9, w3]; congr 2; omega
  · simp [evF, List.map, s9, k, isI, binD, intOp, sub0, h4]
  · simp [evF, List.map, s7, k, t10, isI, binD, intOp, w1]
  · simp [evF, List.map, s7, k, t11, isI, binD, intOp, w2]
  · simp [evF, List.map, s7, isI, binD, intOp, sub0]
  · simp [evF, List.map, s7, s10, isI, binD, intOp, sub0]; try omega
  · simp [evF, List.map, s7, s11, isI, binD, intOp, sub0]; try omega
  · simp [evF, List.map, s10, isI, binD, intOp, sub0]
  · simp [evF, List.map, s7, isI, binD, intOp, k0, IntKind.wrap_i64]
  · simp only [evF, List.map, s7, s10, isI, Bool.or_self, cond_false, binD, if_true, intOp, k0, IntKind.wrap_i64]; congr 2; omega
  · simp only [evF, List.map, s7, s11, isI, Bool.or_self, cond_false, binD, if_true, intOp, k0, IntKind.wrap_i64]; congr 2; omega
  · simp [evF, List.map, s7, isI, binD, intOp, sub0]
  · simp [evF, List.map, s7, s10, isI, binD, intOp, sub0]; try omega
  · simp [evF, List.map, s11, isI, binD, intOp, sub0]
  · simp [evF, List.map, s7, s11, isI, binD, intOp, sub0]; try omega
  · simp [evF, List.map, s7, isI, binD, intOp, sub0]
  · simp [evF, List.map, s7, s10, isI, binD, intOp, sub0]; try omega
  · simp [evF, List.map, s7, s11, isI, binD, intOp, sub0]; try omega
  · simp [evF, List.map, s8, k, isI, binD, intOp, sub0, h5]
  · simp [evF, List.map, s1, k, isI, binD, intOp, sub0, h6]
  · simp [evF, List.map, s1, k, isI, binD, intOp, sub0, h7]
  · simp [evF, List.map, s1, k, isI, binD, intOp, sub0, h8]
  · simp [evF, List.map, s1, t12]
  · simp only [evF, List.map, s1, s12, isI, Bool.or_self, cond_false, binD, if_true, intOp, sub0, h6, h7, h8, hw]
    by_cases c1 : n = -9223372036854775808
    · simp [c1]
    · have c1b : (n == -9223372036854775808) = false := by simpa using c1
      rw [if_neg c1, c1b]
      by_cases c2 : n < 0
      · simp [c2]; omega
      · by_cases c3 : n > 0
        · simp [c3]; omega
        · have : n = 0 := by omega
          subst this
          simp
  · simp only [evF, List.map, sa, k, isI, Bool.or_self, cond_false, binD, if_true, intOp, sub0, h6, hz, hw]
    by_cases c1 : n = -9223372036854775808
    · simp [c1]
    · have c1b : (n == -9223372036854775808) = false := by simpa using c1
      rw [if_neg c1, c1b]
      by_cases c2 : n < 0
      · simp [c2]; omega
      · simp [c2]; omega
  · simp only [evF, List.map, sa, k, isI, Bool.or_self, cond_false, binD, if_true, intOp, sub0, h6, hz, hw]
    by_cases c1 : n = -9223372036854775808
    · simp [c1]
    · have c1b : (n == -9223372036854775808) = false := by simpa using c1
      rw [if_neg c1, c1b]
      by_cases c2 : n < 0
      · simp [c2]; omega
      · simp [c2]
  · simp only [evF, List.map, sv, isI, Bool.or_self, cond_false, binD]
    rw [hc z z]
    simp [sub0, eqU]
  · simp only [evF, List.map, sa, k, isI, Bool.or_self, cond_false, binD, if_true, intOp, t1, hz, hw]
    rw [h7, h8]
    by_cases c1 : n = -9223372036854775808
    · subst c1; rfl
    · by_cases c2 : n < 0
      · simp only [c1, c2, if_false, if_true, decide_true, cond_true]
        rw [wrap_id (by omega)]
        congr 2; omega
      · by_cases c3 : n > 0
        · simp only [c2, c3, if_false, decide_true, decide_false, cond_true, cond_false]
          rw [wrap_id (by omega)]
          congr 2; omega
        · have : n = 0 := by omega
          subst this
          rfl
  · simp [evF, List.map, s1, isI, binD, intOp, sub0]
def flags : Fl := (decide (n.tmod 10000 > 0), decide (n.tmod 10000 ≥ 5000), decide (n.tmod 10000 < 0), decide (-(n.tmod 10000) ≥ 5000), (n.tmod 10000 == 0), (n == -9223372036854775808), decide (n < 0), decide (n > 0))
theorem flags_way (hn : -9223372036854775808 ≤ n ∧ n ≤ 9223372036854775807) : ∃ k, k < 8 ∧ flags n = ways.getD k default := by
  obtain ⟨q1, q2, q3, q4, q5⟩ := Pure.quot n
  unfold flags
  generalize n.tmod 10000 = r at *
  generalize n.tdiv 10000 = q at *
  by_cases c1 : r > 0
  · by_cases c2 : r ≥ 5000
    · exact ⟨4, by omega, by simp [ways, c1, c2]; omega⟩
    · exact ⟨3, by omega, by simp [ways, c1, c2]; omega⟩
  by_cases c3 : r < 0
  · by_cases c4 : -r ≥ 5000
    · by_cases c6 : n = -9223372036854775808
      · exact ⟨7, by omega, by simp [ways, c1, c3, c4, c6]; omega⟩
      · exact ⟨6, by omega, by simp [ways, c1, c3, c4, c6]; omega⟩
    · exact ⟨5, by omega, by simp [ways, c1, c3, c4]; omega⟩
  · obtain rfl : r = 0 := by omega
    by_cases c7 : n < 0
    · exact ⟨2, by omega, by simp [ways, c7]; omega⟩
    by_cases c8 : n > 0
    · exact ⟨1, by omega, by simp [ways, c7, c8]; omega⟩
    · exact ⟨0, by omega, by simp [ways, c7, c8]; omega⟩
end
theorem runF (k : Nat) (hk : k < 8) : saysD true (callD (cfg false (ways.getD k default)) 60 (.fn 7) [tk 0, tk 1] ⟨.leaf, 0⟩) = true := by
  match k, hk with
  | 0, _ => exact runsF0
  | 1, _ => exact runsF1
  | 2, _ => exact runsF2
  | 3, _ => exact runsF3
  | 4, _ => exact runsF4
  | 5, _ => exact runsF5
  | 6, _ => exact runsF6
  | 7, _ => exact runsF7
theorem runT (k : Nat) (hk : k < 8) : saysD true (callD (cfg true (ways.getD k default)) 60 (.fn 7) [tk 0, tk 1] ⟨.leaf, 0⟩) = true := by
  match k, hk with
  | 0, _ => exact runsT0
  | 1, _ => exact runsT1
  | 2, _ => exact runsT2
  | 3, _ => exact runsT3
  | 4, _ => exact runsT4
  | 5, _ => exact runsT5
  | 6, _ => exact runsT6
  | 7, _ => exact runsT7
theorem calls (s : ByteArray) (n : Int) (hsz : s.size ≤ 9223372036854775807) (hn : -9223372036854775808 ≤ n ∧ n ≤ 9223372036854775807) (W : World) (hG : Laid W) :
    Calls Tryz.prog 7 #[.string s, .int .i64 n] W fun e W' => e = .returned (.bool true) ∧ RowKit.Below W.heap.size W W' := by
  have hI : Inv W.heap.size (fun w => RowKit.Below W.heap.size W w) := ⟨fun w w' h k => h.trans k⟩
  have hL : ∀ w, RowKit.Below W.heap.size W w → Laid w := fun w h => hG.below h
  have hmay := Pure.may_eq 0 4 0 s
  have hds : s.data.toList.length = s.size := by rw [Array.length_toList]; rfl
  obtain ⟨k, hk, hfl⟩ := flags_way n hn
  by_cases hv : s.size ≤ 1024 ∧ Go.Lib.validD s.data.toList = true
  · obtain ⟨p, hp1, hp2⟩ := Go.Proofs.YtchbodpkaiengaaGreatDoorU8.valid_split _ s.data.toList (Nat.le_refl _) hv.2
    obtain rfl : s = Pure.T p := Go.WideShapes.bytes_inj (by rw [hp2]; exact (Pure.T_data p).symm)
    have hok : Pure.Ok p := ⟨hp1, by rw [← Pure.T_size]; exact hv.1⟩
    obtain ⟨u1, u2, u3⟩ := Pure.cased_T 97 122 (-32) (by omega) (by omega) (by omega) (by omega) (by omega) p hok
    obtain ⟨l1, l2, l3⟩ := Pure.cased_T 65 90 32 (by omega) (by omega) (by omega) (by omega) (by omega) p hok
    obtain ⟨uu, _, _⟩ := Pure.cased_T 97 122 (-32) (by omega) (by omega) (by omega) (by omega) (by omega) _ u2
    obtain ⟨lu, _, _⟩ := Pure.cased_T 65 90 32 (by omega) (by omega) (by omega) (by omega) (by omega) _ u2
    obtain ⟨ul, _, _⟩ := Pure.cased_T 97 122 (-32) (by omega) (by omega) (by omega) (by omega) (by omega) _ l2
    obtain ⟨ll, _, _⟩ := Pure.cased_T 65 90 32 (by omega) (by omega) (by omega) (by omega) (by omega) _ l2
    rw [Pure.turns p _ _ _ Pure.up_up] at uu
    rw [Pure.turns p _ _ _ Pure.lw_up] at lu
    rw [Pure.turns p _ _ _ Pure.up_lw] at ul
    rw [Pure.turns p _ _ _ Pure.lw_lw] at ll
    obtain ⟨q, hq, hq2⟩ := Pure.trim_T p hok
    have zp := Pure.T_size p
    have zq := Pure.T_size q
    have gp := hok.2
    have gq := hq.2
    have tr : ∀ r, Pure.Ok r → Go.Lib.trimB (u8s r) 32 = u8s q → strings_Trim.f (Pure.T r) ⟨#[32]⟩ = some (Pure.T q) := fun r hr he => by
      have := Pure.T_size r
      have := hr.2
      unfold strings_Trim.f
      rw [if_pos rfl, if_pos (by omega), Pure.T_data, he]
      rfl
    have t1 := tr p hok hq2
    have t2 := tr q hq (by rw [← hq2, Pure.trim_trim])
    have val : ∀ r : List Int, Pure.Ok r → utf8_ValidString.f (Pure.T r) = some true := fun r hr => by
      have := Pure.T_size r
      have := hr.2
      unfold utf8_ValidString.f
      rw [if_pos (by omega), Pure.T_data, Go.Proofs.YtchbodpkaiengaaGreatDoorU8.valid_u8s r hr.1]
    generalize hU : p.map (Pure.turn 97 122 (-32)) = U at *
    generalize hLo : p.map (Pure.turn 65 90 32) = L at *
    letI : Eta := eta (Pure.T p) (Pure.T U) (Pure.T L) (Pure.T q) n
    have hmb : Pure.okB 4 0 (Pure.T p) = true := by simp [Pure.okB, hv.1, hv.2]
    rw [hmb] at hmay
    have dp := Pure.T_data p
    have dU := Pure.T_data U
    have dL := Pure.T_data L
    have dq := Pure.T_data q
    have hf : FactsOk (cfg true (flags n)) := fun x hx => by
      have hx' : x ∈ factsT ++ fN (flags n) := hx
      rcases List.mem_append.1 hx' with hx | hx
      · have s0 : sub (tk 0) = .string (Pure.T p) := rfl
        have s2 : sub (tk 2) = .string (Pure.T U) := rfl
        have s3 : sub (tk 3) = .string (Pure.T L) := rfl
        have s4 : sub (tk 4) = .string (Pure.T q) := rfl
        have s5 : sub (tk 5) = .int .i64 (Pure.T p).data.toList.length := rfl
        have s6 : sub (tk 6) = .int .i64 (Pure.T q).data.toList.length := rfl
        have t5 : sub0 (tk 5) = .int .i64 (Pure.T p).data.toList.length := rfl
        have t6 : sub0 (tk 6) = .int .i64 (Pure.T q).data.toList.length := rfl
        have c1 : sub (i64 1024) = .int .i64 1024 := rfl
        have v2 : sub (.agg #[i64 4, i64 0, tk 2]) = .agg #[.int .i64 4, .int .i64 0, .string (Pure.T U)] := rfl
        have v3 : sub (.agg #[i64 4, i64 0, tk 3]) = .agg #[.int .i64 4, .int .i64 0, .string (Pure.T L)] := rfl
        have v4 : sub (.agg #[i64 4, i64 0, tk 4]) = .agg #[.int .i64 4, .int .i64 0, .string (Pure.T q)] := rfl
        simp only [factsT, List.mem_cons, List.not_mem_nil, or_false] at hx
        rcases hx with rfl | rfl | rfl | rfl | rfl | rfl | rfl | rfl | rfl | rfl | rfl
        · simp only [evF, List.map, s0, t5]
        · simp only [evF, List.map, s2, t5, dU, dp, u3]
        · simp only [evF, List.map, s3, t5, dL, dp, l3]
        · simp only [evF, List.map, s4, t6]
        · simp only [evF, List.map, s5, c1, isI, Bool.or_self, cond_false, binD, if_true, intOp, sub0, dp]
          rw [decide_eq_true (by omega)]
        · simp only [evF, List.map, s6, c1, isI, Bool.or_self, cond_false, binD, if_true, intOp, sub0, dq]
          rw [decide_eq_true (by omega)]
        · simp only [evF, List.map, s5, c1, isI, Bool.or_self, cond_false, binD, if_true, intOp, sub0, dp]
          rw [decide_eq_false (by omega)]
        · simp only [evF, List.map, s6, c1, isI, Bool.or_self, cond_false, binD, if_true, intOp, sub0, dq]
          rw [decide_eq_false (by omega)]
        · simp only [evF, List.map, v2, isI, Bool.or_self, cond_false, binD]
          rw [show eqD (cfg true (flags n)) 20 tV _ _ = _ from eqV 4 0 4 0 (Pure.T U) (Pure.T U)]
          simp [sub0, eqU_self]
        · simp only [evF, List.map, v3, isI, Bool.or_self, cond_false, binD]
          rw [show eqD (cfg true (flags n)) 20 tV _ _ = _ from eqV 4 0 4 0 (Pure.T L) (Pure.T L)]
          simp [sub0, eqU_self]
        · simp only [evF, List.map, v4, isI, Bool.or_self, cond_false, binD]
          rw [show eqD (cfg true (flags n)) 20 tV _ _ = _ from eqV 4 0 4 0 (Pure.T q) (Pure.T q)]
          simp [sub0, eqU_self]
      · exact factsN_ok (Pure.T p) (Pure.T U) (Pure.T L) (Pure.T q) n (cfg true (flags n)) (fun x y => eqV 3 x 3 y ⟨#[]⟩ ⟨#[]⟩) hn _ _ _ _ _ _ _ _ rfl rfl rfl rfl rfl rfl rfl rfl x hx
    have hprim : PrimOk (cfg true (flags n)) W.heap.size (fun w => RowKit.Below W.heap.size W w) := PrimOk.apps (apps := appsT) rfl fun a ha => by
      have cas : ∀ (i j : Nat) (lo hi d : Int) (r r' : List Int), sub (tk i) = .string (Pure.T r) → sub0 (tk j) = .string (Pure.T r') → funcs_cased.f (Pure.T r) lo hi d = some (Pure.T r') → AppOk (cfg true (flags n)) W.heap.size (fun w => RowKit.Below W.heap.size W w) ⟨fCased, [tk i, u8 lo, u8 hi, i64 d], tk j⟩ := fun i j lo hi d r r' e1 e2 e3 => by
        refine app_flat (P := Tryz.prog) rfl Tryz.func55 (by kernel_rfl) (by kernel_rfl) (fun x hx => ?_) (fun ρ w => VR.of_sub (v := .string (Pure.T r')) e2 rfl) fun w hw => ?_
        · simp only [List.mem_cons, List.not_mem_nil, or_false] at hx
          rcases hx with rfl | rfl | rfl | rfl
          · rw [e1]; rfl
          · rfl
          · rfl
          · rfl
        · simp only [List.map, e1]
          exact funcs_cased.calls (Pure.T r) lo hi d _ w e3
      have tri : ∀ (i j : Nat) (r r' : List Int), sub (tk i) = .string (Pure.T r) → sub0 (tk j) = .string (Pure.T r') → strings_Trim.f (Pure.T r) ⟨#[32]⟩ = some (Pure.T r') → AppOk (cfg true (flags n)) W.heap.size (fun w => RowKit.Below W.heap.size W w) ⟨fTrim, [tk i, sp], tk j⟩ := fun i j r r' e1 e2 e3 => by
        refine app_flat (P := Tryz.prog) rfl Tryz.func56 (by kernel_rfl) (by kernel_rfl) (fun x hx => ?_) (fun ρ w => VR.of_sub (v := .string (Pure.T r')) e2 rfl) fun w hw => ?_
        · simp only [List.mem_cons, List.not_mem_nil, or_false] at hx
          rcases hx with rfl | rfl
          · rw [e1]; rfl
          · rfl
        · simp only [List.map, e1]
          refine (strings_Trim.calls (Pure.T r) ⟨#[32]⟩ _ w e3).mono ?_
          rintro e w' ⟨h1, h2⟩
          exact ⟨h1, h2.below⟩
      have va : ∀ (i : Nat) (r : List Int), sub (tk i) = .string (Pure.T r) → Pure.Ok r → AppOk (cfg true (flags n)) W.heap.size (fun w => RowKit.Below W.heap.size W w) ⟨fValid, [tk i], .bool true⟩ := fun i r e1 hr => by
        refine app_flat (P := Tryz.prog) rfl Tryz.func44 (by kernel_rfl) (by kernel_rfl) (fun x hx => ?_) (fun ρ w => .bool true) fun w hw => ?_
        · simp only [List.mem_cons, List.not_mem_nil, or_false] at hx
          subst hx
          rw [e1]; rfl
        · simp only [List.map, e1]
          exact utf8_ValidString.calls (Pure.T r) true w (hL w hw) (val r hr)
      simp only [appsT, List.mem_cons, List.not_mem_nil, or_false] at ha
      rcases ha with rfl | rfl | rfl | rfl | rfl | rfl | rfl | rfl | rfl | rfl | rfl | rfl | rfl | rfl
      · exact app_flat (P := Tryz.prog) rfl Tryz.func16 (by kernel_rfl) (by kernel_rfl) (fun x hx => by simp at hx; subst hx; rfl) (fun ρ w => .bool true) fun w hw => marqueeref01_May.calls _ 4 0 (Pure.T p) true w hmay
      · exact cas 0 2 97 122 (-32) p U rfl rfl u1
      · exact cas 0 3 65 90 32 p L rfl rfl l1
      · exact tri 0 4 p q rfl rfl t1
      · exact cas 2 2 97 122 (-32) U U rfl rfl uu
      · exact cas 3 3 65 90 32 L L rfl rfl ll
      · exact tri 4 4 q q rfl rfl t2
      · exact cas 3 2 97 122 (-32) L U rfl rfl ul
      · exact cas 2 3 65 90 32 U L rfl rfl lu
      · exact va 0 p rfl hok
      · exact va 2 U rfl u2
      · exact va 3 L rfl l2
      · exact va 4 q rfl hq
      · exact app_sure rfl hL
    have hrun := runT k hk
    rw [← hfl] at hrun
    exact topI (c := cfg true (flags n)) rfl (cfgS_ok _ _ _ _ _ _ _ (fun t h => eqsOf_ok h) hf) (by kernel_rfl) (names _ _) hI (RowKit.Below.refl _ _) hprim (args := [tk 0, tk 1]) (args' := [.string (Pure.T p), .int .i64 n])
      (.cons (VR.of_sub rfl rfl) (.cons (VR.of_sub rfl rfl) .nil)) hrun
  · letI : Eta := eta s s s s n
    have hmb : Pure.okB 4 0 s = false := by
      simp only [Pure.okB]
      simp
      intro h
      exact Bool.eq_false_iff.2 fun e => hv ⟨h, e⟩
    rw [hmb] at hmay
    have hf : FactsOk (cfg false (flags n)) := fun x hx => factsN_ok s s s s n (cfg false (flags n)) (fun x y => eqV 3 x 3 y ⟨#[]⟩ ⟨#[]⟩) hn _ _ _ _ _ _ _ _ rfl rfl rfl rfl rfl rfl rfl rfl x hx
    have hprim : PrimOk (cfg false (flags n)) W.heap.size (fun w => RowKit.Below W.heap.size W w) := PrimOk.apps (apps := appsF) rfl fun a ha => by
      simp only [appsF, List.mem_cons, List.not_mem_nil, or_false] at ha
      rcases ha with rfl | rfl
      · exact app_flat (P := Tryz.prog) rfl Tryz.func16 (by kernel_rfl) (by kernel_rfl) (fun x hx => by simp at hx; subst hx; rfl) (fun ρ w => .bool false) fun w hw => marqueeref01_May.calls _ 4 0 s false w hmay
      · exact app_sure rfl hL
    have hrun := runF k hk
    rw [← hfl] at hrun
    exact topI (c := cfg false (flags n)) rfl (cfgS_ok _ _ _ _ _ _ _ (fun t h => eqsOf_ok h) hf) (by kernel_rfl) (names _ _) hI (RowKit.Below.refl _ _) hprim (args := [tk 0, tk 1]) (args' := [.string s, .int .i64 n])
      (.cons (VR.of_sub rfl rfl) (.cons (VR.of_sub rfl rfl) .nil)) hrun
end Go.Proofs.YtchbodpkaiengaaGreatDoor.funcsAgain
