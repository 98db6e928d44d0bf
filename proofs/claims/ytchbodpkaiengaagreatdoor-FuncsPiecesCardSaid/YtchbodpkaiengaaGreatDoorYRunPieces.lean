/- A part of the proof of this claim. No condition beyond those that each theorem names. -/
import Derived.Test.YtchbodpkaiengaaGreatDoorYApps0
import Derived.Test.YtchbodpkaiengaaGreatDoorYLeaf0
import Derived.Test.YtchbodpkaiengaaGreatDoorYLeaf1
namespace Go.Proofs.YtchbodpkaiengaaGreatDoor.funcsPieces
open Go Go.Proofs Go.Proofs.YtchbodpkaiengaaGreatDoorDx Go.Proofs.YtchbodpkaiengaaGreatDoor Go.Proofs.YtchbodpkaiengaaGreatDoor.PLeaf Go.Proofs.YtchbodpkaiengaaGreatDoor.Apps
open Go.Proofs.YtchbodpkaiengaaGreatDoorU8 (Scal u8s)
set_option linter.unusedVariables false
set_option linter.unusedSimpArgs false
abbrev fMay : Nat := 16
abbrev fSure : Nat := 12
abbrev fPiece : Nat := 57
abbrev fCount : Nat := 53
abbrev fValid : Nat := 44
abbrev tV : TypeId := 34
abbrev tI : TypeId := 3
abbrev tS : TypeId := 9
def apps : List App := [
  ⟨fMay, [.agg #[i64 4, i64 0, tk 0]], .bool true⟩,
  ⟨fPiece, [tk 0, i64 0, tk 1], tk 2⟩,
  ⟨fPiece, [tk 0, tk 3, i64 4611686018427387904], tk 4⟩,
  ⟨fCount, [tk 2], tk 5⟩,
  ⟨fCount, [tk 4], tk 6⟩,
  ⟨fCount, [tk 0], tk 7⟩,
  ⟨fValid, [tk 0], .bool true⟩,
  ⟨fValid, [tk 2], .bool true⟩,
  ⟨fValid, [tk 4], .bool true⟩,
  ⟨fSure, [], .bool true⟩]
def facts : List Fact := [
  ⟨.mx, [i64 0, tk 1], tk 3⟩,
  ⟨.bin .eql tV, [.agg #[i64 4, i64 0, tk 0], .agg #[i64 4, i64 0, tk 0]], .bool true⟩,
  ⟨.bin .add tI, [tk 5, tk 6], tk 7⟩,
  ⟨.bin .eql tI, [tk 7, tk 7], .bool true⟩,
  ⟨.mn, [tk 1, tk 7], tk 8⟩,
  ⟨.mx, [i64 0, tk 8], tk 5⟩,
  ⟨.bin .eql tI, [tk 5, tk 5], .bool true⟩,
  ⟨.len, [tk 0], tk 9⟩,
  ⟨.len, [tk 2], tk 10⟩,
  ⟨.len, [tk 4], tk 11⟩,
  ⟨.bin .leq tI, [tk 9, i64 1024], .bool true⟩,
  ⟨.bin .leq tI, [tk 10, i64 1024], .bool true⟩,
  ⟨.bin .leq tI, [tk 11, i64 1024], .bool true⟩,
  ⟨.bin .gtr tI, [tk 9, i64 1024], .bool false⟩,
  ⟨.bin .gtr tI, [tk 10, i64 1024], .bool false⟩,
  ⟨.bin .gtr tI, [tk 11, i64 1024], .bool false⟩,
  ⟨.bin .add tS, [e0, tk 2], tk 2⟩,
  ⟨.bin .add tS, [tk 2, tk 4], tk 0⟩]
noncomputable def cfg : Cfg := cfgS Tryz.prog 0 0 (eqsOf Tryz.prog) (appsP apps) facts (fun _ _ => none)
def apps2 : List App := [
  ⟨fMay, [.agg #[i64 4, i64 0, tk 0]], .bool false⟩,
  ⟨fSure, [], .bool true⟩]
def facts2 : List Fact := [
  ⟨.len, [tk 0], tk 2⟩,
  ⟨.bin .leq tI, [tk 2, i64 1024], .bool false⟩]
noncomputable def cfg2 : Cfg := cfgS Tryz.prog 0 0 (eqsOf Tryz.prog) (appsP apps2) facts2 (fun _ _ => none)
def apps3 : List App := [
  ⟨fMay, [.agg #[i64 4, i64 0, tk 0]], .bool false⟩,
  ⟨fValid, [tk 0], .bool false⟩,
  ⟨fSure, [], .bool true⟩]
def facts3 : List Fact := [
  ⟨.len, [tk 0], tk 2⟩,
  ⟨.bin .leq tI, [tk 2, i64 1024], .bool true⟩]
noncomputable def cfg3 : Cfg := cfgS Tryz.prog 0 0 (eqsOf Tryz.prog) (appsP apps3) facts3 (fun _ _ => none)
set_option maxRecDepth 1000000 in
theorem runs : saysD true (callD cfg 60 (.fn 6) [tk 0, tk 1] ⟨.leaf, 0⟩) = true := by kernel_rfl
set_option maxRecDepth 1000000 in
theorem runs2 : saysD true (callD cfg2 60 (.fn 6) [tk 0, tk 1] ⟨.leaf, 0⟩) = true := by kernel_rfl
set_option maxRecDepth 1000000 in
theorem runs3 : saysD true (callD cfg3 60 (.fn 6) [tk 0, tk 1] ⟨.leaf, 0⟩) = true := by kernel_rfl
theorem names (apps : List App) (facts : List Fact) : ∀ f fn, (cfgS Tryz.prog 0 0 (eqsOf Tryz.prog) (appsP apps) facts (fun _ _ => none)).fns f = some fn → (fn.name == "runtime.NumGoroutine") = false := by
  have h : (Tryz.prog.funcs.toList.all fun fn => !(fn.name == "runtime.NumGoroutine")) = true := by kernel_rfl
  intro f fn hf
  have hm : fn ∈ Tryz.prog.funcs.toList := by
    have hf' : Tryz.prog.funcs[f]? = some fn := hf
    simpa using Array.mem_of_getElem? hf'
  simpa using List.all_eq_true.1 h fn hm
@[reducible] def eta (p : List Int) (n : Int) (m : Nat) : Eta := ⟨fun i => [Value.string (Pure.T p), .int .i64 n, .string (Pure.T (p.take m)), .int .i64 (if n > 0 then n else 0), .string (Pure.T (p.drop m)), .int .i64 m, .int .i64 ((p.length : Int) - m), .int .i64 p.length,
  .int .i64 (if (p.length : Int) < n then (p.length : Int) else n), .int .i64 (u8s p).length, .int .i64 (u8s (p.take m)).length, .int .i64 (u8s (p.drop m)).length].getD i undef⟩
theorem facts_ok (p : List Int) (n : Int) (m : Nat) (hm : (m : Int) = min (max n 0) (p.length : Int)) (hl : p.length ≤ 1024) (h0 : (u8s p).length ≤ 1024) (h1 : (u8s (p.take m)).length ≤ 1024) (h2 : (u8s (p.drop m)).length ≤ 1024) : @FactsOk (eta p n m) cfg := by
  letI : Eta := eta p n m
  have t0 : sub0 (tk 0) = .string (Pure.T p) := rfl
  have t2 : sub0 (tk 2) = .string (Pure.T (p.take m)) := rfl
  have t3 : sub0 (tk 3) = .int .i64 (if n > 0 then n else 0) := rfl
  have t5 : sub0 (tk 5) = .int .i64 m := rfl
  have t7 : sub0 (tk 7) = .int .i64 p.length := rfl
  have t8 : sub0 (tk 8) = .int .i64 (if (p.length : Int) < n then (p.length : Int) else n) := rfl
  have t9 : sub0 (tk 9) = .int .i64 (u8s p).length := rfl
  have t10 : sub0 (tk 10) = .int .i64 (u8s (p.take m)).length := rfl
  have t11 : sub0 (tk 11) = .int .i64 (u8s (p.drop m)).length := rfl
  have s0 : sub (tk 0) = .string (Pure.T p) := rfl
  have s1 : sub (tk 1) = .int .i64 n := rfl
  have s2 : sub (tk 2) = .string (Pure.T (p.take m)) := rfl
  have s4 : sub (tk 4) = .string (Pure.T (p.drop m)) := rfl
  have s5 : sub (tk 5) = .int .i64 m := rfl
  have s6 : sub (tk 6) = .int .i64 ((p.length : Int) - m) := rfl
  have s7 : sub (tk 7) = .int .i64 p.length := rfl
  have s8 : sub (tk 8) = .int .i64 (if (p.length : Int) < n then (p.length : Int) else n) := rfl
  have s9 : sub (tk 9) = .int .i64 (u8s p).length := rfl
  have s10 : sub (tk 10) = .int .i64 (u8s (p.take m)).length := rfl
  have s11 : sub (tk 11) = .int .i64 (u8s (p.drop m)).length := rfl
  have c0 : sub (i64 0) = .int .i64 0 := rfl
  have c1 : sub (i64 1024) = .int .i64 1024 := rfl
  have ce : sub e0 = .string ⟨#[]⟩ := rfl
  have v0 : sub (.agg #[i64 4, i64 0, tk 0]) = .agg #[.int .i64 4, .int .i64 0, .string (Pure.T p)] := rfl
  have d0 := Pure.T_data p
  have d2 := Pure.T_data (p.take m)
  have d4 := Pure.T_data (p.drop m)
  intro q hq
  simp only [cfg, cfgS, facts, List.mem_cons, List.not_mem_nil, or_false] at hq
  rcases hq with rfl | rfl | rfl | rfl | rfl | rfl | rfl | rfl | rfl | rfl | rfl | rfl | rfl | rfl | rfl | rfl | rfl | rfl
  · simp only [List.map, evF, s1, c0, t3, minmax, if_true]
    try rfl
  · simp only [List.map, evF, v0, isI, Bool.or_self, cond_false, binD]
    rw [show eqD cfg 20 tV _ _ = _ from eqV 4 0 4 0 (Pure.T p) (Pure.T p)]
    simp [sub0, eqU_self]
  · simp only [List.map, evF, s5, s6, isI, Bool.or_self, cond_false, binD, if_true, intOp, t7]
    rw [IntKind.wrap_i64]
    congr 2; omega
  · simp [List.map, evF, s7, isI, binD, intOp, sub0]
  · simp only [List.map, evF, s1, s7, minmax, if_true, t8]
    try rfl
  · simp only [List.map, evF, s8, c0, minmax, if_true, t5]
    by_cases h1 : (p.length : Int) < n
    · by_cases h2 : (p.length : Int) > 0
      · simp [h1, h2]; omega
      · simp [h1, h2]; omega
    · by_cases h2 : n > 0
      · simp [h1, h2]; omega
      · simp [h1, h2]; omega
  · simp [List.map, evF, s5, isI, binD, intOp, sub0]
  · simp only [List.map, evF, s0, t9, d0]
  · simp only [List.map, evF, s2, t10, d2]
  · simp only [List.map, evF, s4, t11, d4]
  · simp [List.map, evF, s9, c1, isI, binD, intOp, sub0]; omega
  · simp [List.map, evF, s10, c1, isI, binD, intOp, sub0]; omega
  · simp [List.map, evF, s11, c1, isI, binD, intOp, sub0]; omega
  · simp [List.map, evF, s9, c1, isI, binD, intOp, sub0]; omega
  · simp [List.map, evF, s10, c1, isI, binD, intOp, sub0]; omega
  · simp [List.map, evF, s11, c1, isI, binD, intOp, sub0]; omega
  · simp only [List.map, evF, ce, s2, t2, isI, Bool.or_self, cond_false, binD, strOp, d2]
    rw [show Nat.ble _ 9223372036854775807 = true from by rw [Nat.ble_eq]; simp; omega]
    rfl
  · simp only [List.map, evF, s2, s4, t0, isI, Bool.or_self, cond_false, binD, strOp, d2, d4]
    rw [show Nat.ble _ 9223372036854775807 = true from by rw [Nat.ble_eq]; omega, ← Go.Proofs.YtchbodpkaiengaaGreatDoorU8.u8s_append, List.take_append_drop]
    rfl
theorem calls (s : ByteArray) (n : Int) (hsz : s.size ≤ 9223372036854775807) (hn : -9223372036854775808 ≤ n ∧ n ≤ 9223372036854775807) (W : World) (hG : Laid W) :
    Calls Tryz.prog 6 #[.string s, .int .i64 n] W fun e W' => e = .returned (.bool true) ∧ RowKit.Below W.heap.size W W' := by
  have hI : Inv W.heap.size (fun w => RowKit.Below W.heap.size W w) := ⟨fun w w' h k => h.trans k⟩
  have hL : ∀ w, RowKit.Below W.heap.size W w → Laid w := fun w h => hG.below h
  have hmay := Pure.may_eq 0 4 0 s
  have hds : s.data.toList.length = s.size := by rw [Array.length_toList]; rfl
  by_cases hv : s.size ≤ 1024 ∧ Go.Lib.validD s.data.toList = true
  · obtain ⟨p, hp1, hp2⟩ := Go.Proofs.YtchbodpkaiengaaGreatDoorU8.valid_split _ s.data.toList (Nat.le_refl _) hv.2
    obtain rfl : s = Pure.T p := Go.WideShapes.bytes_inj (by rw [hp2]; exact (Pure.T_data p).symm)
    have hok : Pure.Ok p := ⟨hp1, by rw [← Pure.T_size]; exact hv.1⟩
    have hlen : p.length ≤ 1024 := Nat.le_trans (Pure.len_p p hp1) hok.2
    obtain ⟨m, hm⟩ : ∃ m : Nat, (m : Int) = min (max n 0) (p.length : Int) := ⟨(min (max n 0) (p.length : Int)).toNat, by omega⟩
    have hok1 : Pure.Ok (p.take m) := by have := Pure.Ok.part hok 0 m; simpa using this
    have hok2 : Pure.Ok (p.drop m) := by have := Pure.Ok.part hok m (p.length - m); rwa [List.take_of_length_le (by simp)] at this
    letI : Eta := eta p n m
    have hf : FactsOk cfg := facts_ok p n m hm hlen hok.2 hok1.2 hok2.2
    have hmb : Pure.okB 4 0 (Pure.T p) = true := by simp [Pure.okB, hv.1, hv.2]
    rw [hmb] at hmay
    have z0 := Pure.T_size p
    have z1 := Pure.T_size (p.take m)
    have z2 := Pure.T_size (p.drop m)
    have g0 := hok.2
    have g1 := hok1.2
    have g2 := hok2.2
    have l3 : ((p.take m).length : Int) = m := by rw [List.length_take]; omega
    have l4 : ((p.drop m).length : Int) = (p.length : Int) - m := by rw [List.length_drop]; omega
    have c1 : funcs_piece.f (Pure.T p) 0 n = some (Pure.T (p.take m)) := by
      have e1 : funcs_piece.from_ p 0 = 0 := by unfold funcs_piece.from_; omega
      have e2 : funcs_piece.cnt p 0 n = m := by unfold funcs_piece.cnt; omega
      unfold funcs_piece.f
      rw [if_pos (by omega), if_pos (by omega), if_pos (by omega), if_pos hn.1, if_pos hn.2, Pure.piece_eq p hok.1, e1, e2, List.drop_zero]
    have c2 : funcs_piece.f (Pure.T p) (if n > 0 then n else 0) 4611686018427387904 = some (Pure.T (p.drop m)) := by
      have e1 : funcs_piece.from_ p (if n > 0 then n else 0) = m := by unfold funcs_piece.from_; omega
      have e2 : funcs_piece.cnt p (if n > 0 then n else 0) 4611686018427387904 = p.length - m := by unfold funcs_piece.cnt; omega
      unfold funcs_piece.f
      rw [if_pos (by omega), if_pos (by omega), if_pos (by omega), if_pos (by omega), if_pos (by omega), Pure.piece_eq p hok.1, e1, e2, List.take_of_length_le (by simp)]
    have cnt : ∀ q : List Int, Pure.Ok q → utf8_RuneCountInString.f (Pure.T q) = some (q.length : Int) := fun q hq => by
      have := Pure.T_size q
      have := hq.2
      unfold utf8_RuneCountInString.f
      rw [if_pos (by omega), Pure.count_eq q hq.1]
    have val : ∀ q : List Int, Pure.Ok q → utf8_ValidString.f (Pure.T q) = some true := fun q hq => by
      have := Pure.T_size q
      have := hq.2
      unfold utf8_ValidString.f
      rw [if_pos (by omega), Pure.T_data, Go.Proofs.YtchbodpkaiengaaGreatDoorU8.valid_u8s q hq.1]
    have n1 := cnt _ hok1
    have n2 := cnt _ hok2
    rw [l3] at n1
    rw [l4] at n2
    have hprim : PrimOk cfg W.heap.size (fun w => RowKit.Below W.heap.size W w) := PrimOk.apps (apps := apps) rfl fun a ha => by
      simp only [apps, List.mem_cons, List.not_mem_nil, or_false] at ha
      rcases ha with rfl | rfl | rfl | rfl | rfl | rfl | rfl | rfl | rfl | rfl
      · exact app_flat (P := Tryz.prog) rfl Tryz.func16 (by kernel_rfl) (by kernel_rfl) (fun x hx => by simp at hx; subst hx; rfl) (fun ρ w => .bool true) fun w hw => marqueeref01_May.calls _ 4 0 (Pure.T p) true w hmay
      · exact app_flat (P := Tryz.prog) rfl Tryz.func57 (by kernel_rfl) (by kernel_rfl) (fun x hx => by simp at hx; rcases hx with rfl | rfl | rfl <;> rfl) (fun ρ w => VR.of_sub (v := .string (Pure.T (p.take m))) rfl rfl) fun w hw => funcs_piece.calls (Pure.T p) 0 n _ w c1
      · exact app_flat (P := Tryz.prog) rfl Tryz.func57 (by kernel_rfl) (by kernel_rfl) (fun x hx => by simp at hx; rcases hx with rfl | rfl | rfl <;> rfl) (fun ρ w => VR.of_sub (v := .string (Pure.T (p.drop m))) rfl rfl) fun w hw => funcs_piece.calls (Pure.T p) (if n > 0 then n else 0) 4611686018427387904 _ w c2
      · exact app_flat (P := Tryz.prog) rfl Tryz.func53 (by kernel_rfl) (by kernel_rfl) (fun x hx => by simp at hx; subst hx; rfl) (fun ρ w => VR.of_sub (v := .int .i64 m) rfl rfl) fun w hw => utf8_RuneCountInString.calls (Pure.T (p.take m)) _ w n1
      · exact app_flat (P := Tryz.prog) rfl Tryz.func53 (by kernel_rfl) (by kernel_rfl) (fun x hx => by simp at hx; subst hx; rfl) (fun ρ w => VR.of_sub (v := .int .i64 ((p.length : Int) - m)) rfl rfl) fun w hw => utf8_RuneCountInString.calls (Pure.T (p.drop m)) _ w n2
      · exact app_flat (P := Tryz.prog) rfl Tryz.func53 (by kernel_rfl) (by kernel_rfl) (fun x hx => by simp at hx; subst hx; rfl) (fun ρ w => VR.of_sub (v := .int .i64 p.length) rfl rfl) fun w hw => utf8_RuneCountInString.calls (Pure.T p) _ w (cnt p hok)
      · exact app_flat (P := Tryz.prog) rfl Tryz.func44 (by kernel_rfl) (by kernel_rfl) (fun x hx => by simp at hx; subst hx; rfl) (fun ρ w => .bool true) fun w hw => utf8_ValidString.calls (Pure.T p) true w (hL w hw) (val p hok)
      · exact app_flat (P := Tryz.prog) rfl Tryz.func44 (by kernel_rfl) (by kernel_rfl) (fun x hx => by simp at hx; subst hx; rfl) (fun ρ w => .bool true) fun w hw => utf8_ValidString.calls (Pure.T (p.take m)) true w (hL w hw) (val _ hok1)
      · exact app_flat (P := Tryz.prog) rfl Tryz.func44 (by kernel_rfl) (by kernel_rfl) (fun x hx => by simp at hx; subst hx; rfl) (fun ρ w => .bool true) fun w hw => utf8_ValidString.calls (Pure.T (p.drop m)) true w (hL w hw) (val _ hok2)
      · exact app_sure rfl hL
    exact topI (c := cfg) rfl (cfgS_ok _ _ _ _ _ _ _ (fun t h => eqsOf_ok h) hf) (by kernel_rfl) (names _ _) hI (RowKit.Below.refl _ _) hprim (args := [tk 0, tk 1]) (args' := [.string (Pure.T p), .int .i64 n])
      (.cons (VR.of_sub rfl rfl) (.cons (VR.of_sub rfl rfl) .nil)) runs
  · letI : Eta := ⟨fun i => [Value.string s, .int .i64 n, .int .i64 s.data.toList.length].getD i undef⟩
    have hmb : Pure.okB 4 0 s = false := by
      simp only [Pure.okB]
      simp
      intro h
      exact Bool.eq_false_iff.2 fun e => hv ⟨h, e⟩
    rw [hmb] at hmay
    have s0 : sub (tk 0) = .string s := rfl
    have s2 : sub (tk 2) = .int .i64 s.data.toList.length := rfl
    have t2 : sub0 (tk 2) = .int .i64 s.data.toList.length := rfl
    have c1 : sub (i64 1024) = .int .i64 1024 := rfl
    by_cases hle : s.size ≤ 1024
    · have hvf : Go.Lib.validD s.data.toList = false := Bool.eq_false_iff.2 fun e => hv ⟨hle, e⟩
      have hf : FactsOk cfg3 := fun q hq => by
        simp only [cfg3, cfgS, facts3, List.mem_cons, List.not_mem_nil, or_false] at hq
        rcases hq with rfl | rfl
        · simp only [List.map, evF, s0, t2]
        · simp only [List.map, evF, s2, c1, isI, Bool.or_self, cond_false, binD, if_true, intOp, sub0]
          rw [decide_eq_true (by omega)]
      have hprim : PrimOk cfg3 W.heap.size (fun w => RowKit.Below W.heap.size W w) := PrimOk.apps (apps := apps3) rfl fun a ha => by
        simp only [apps3, List.mem_cons, List.not_mem_nil, or_false] at ha
        rcases ha with rfl | rfl | rfl
        · exact app_flat (P := Tryz.prog) rfl Tryz.func16 (by kernel_rfl) (by kernel_rfl) (fun x hx => by simp at hx; subst hx; rfl) (fun ρ w => .bool false) fun w hw => marqueeref01_May.calls _ 4 0 s false w hmay
        · exact app_flat (P := Tryz.prog) rfl Tryz.func44 (by kernel_rfl) (by kernel_rfl) (fun x hx => by simp at hx; subst hx; rfl) (fun ρ w => .bool false) fun w hw => utf8_ValidString.calls s false w (hL w hw) (by unfold utf8_ValidString.f; rw [if_pos hsz, hvf])
        · exact app_sure rfl hL
      exact topI (c := cfg3) rfl (cfgS_ok _ _ _ _ _ _ _ (fun t h => eqsOf_ok h) hf) (by kernel_rfl) (names _ _) hI (RowKit.Below.refl _ _) hprim (args := [tk 0, tk 1]) (args' := [.string s, .int .i64 n])
        (.cons (VR.of_sub rfl rfl) (.cons (VR.of_sub rfl rfl) .nil)) runs3
    · have hf : FactsOk cfg2 := fun q hq => by
        simp only [cfg2, cfgS, facts2, List.mem_cons, List.not_mem_nil, or_false] at hq
        rcases hq with rfl | rfl
        · simp only [List.map, evF, s0, t2]
        · simp only [List.map, evF, s2, c1, isI, Bool.or_self, cond_false, binD, if_true, intOp, sub0]
          rw [decide_eq_false (by omega)]
      have hprim : PrimOk cfg2 W.heap.size (fun w => RowKit.Below W.heap.size W w) := PrimOk.apps (apps := apps2) rfl fun a ha => by
        simp only [apps2, List.mem_cons, List.not_mem_nil, or_false] at ha
        rcases ha with rfl | rfl
        · exact app_flat (P := Tryz.prog) rfl Tryz.func16 (by kernel_rfl) (by kernel_rfl) (fun x hx => by simp at hx; subst hx; rfl) (fun ρ w => .bool false) fun w hw => marqueeref01_May.calls _ 4 0 s false w hmay
        · exact app_sure rfl hL
      exact topI (c := cfg2) rfl (cfgS_ok _ _ _ _ _ _ _ (fun t h => eqsOf_ok h) hf) (by kernel_rfl) (names _ _) hI (RowKit.Below.refl _ _) hprim (args := [tk 0, tk 1]) (args' := [.string s, .int .i64 n])
        (.cons (VR.of_sub rfl rfl) (.cons (VR.of_sub rfl rfl) .nil)) runs2
end Go.Proofs.YtchbodpkaiengaaGreatDoor.funcsPieces
