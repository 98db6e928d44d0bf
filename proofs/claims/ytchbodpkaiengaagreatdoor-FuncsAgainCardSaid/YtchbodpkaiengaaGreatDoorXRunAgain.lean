/- A part of the proof of this claim. No condition beyond those that each theorem names. -/
import Derived.Test.YtchbodpkaiengaaGreatDoorXApps0
import Derived.Test.YtchbodpkaiengaaGreatDoorXLeaf0
import Derived.Test.YtchbodpkaiengaaGreatDoorXLeaf1
namespace Go.Proofs.YtchbodpkaiengaaGreatDoor.funcsAgain
open Go Go.Proofs Go.Proofs.YtchbodpkaiengaaGreatDoorDx Go.Proofs.YtchbodpkaiengaaGreatDoor Go.Proofs.YtchbodpkaiengaaGreatDoor.PLeaf Go.Proofs.YtchbodpkaiengaaGreatDoor.Apps
open Go.Proofs.YtchbodpkaiengaaGreatDoorU8 (Scal u8s enc)
set_option linter.unusedVariables false
set_option linter.unusedSimpArgs false
abbrev fMay : Nat := 16
abbrev fSure : Nat := 12
abbrev fCased : Nat := 55
abbrev fTrim : Nat := 56
abbrev fValid : Nat := 44
abbrev tV : TypeId := 34
abbrev tI : TypeId := 3
abbrev u8 (n : Int) : Value := .int .u8 n
abbrev sp : Value := .string ⟨#[32]⟩
def appsT : List App := [
  ⟨fMay, [.agg #[i64 4, i64 0, tk 0]], .bool true⟩,
  ⟨fCased, [tk 0, u8 97, u8 122, i64 (-32)], tk 2⟩,
  ⟨fCased, [tk 0, u8 65, u8 90, i64 32], tk 3⟩,
  ⟨fTrim, [tk 0, sp], tk 4⟩,
  ⟨fCased, [tk 2, u8 97, u8 122, i64 (-32)], tk 2⟩,
  ⟨fCased, [tk 3, u8 65, u8 90, i64 32], tk 3⟩,
  ⟨fTrim, [tk 4, sp], tk 4⟩,
  ⟨fCased, [tk 3, u8 97, u8 122, i64 (-32)], tk 2⟩,
  ⟨fCased, [tk 2, u8 65, u8 90, i64 32], tk 3⟩,
  ⟨fValid, [tk 0], .bool true⟩,
  ⟨fValid, [tk 2], .bool true⟩,
  ⟨fValid, [tk 3], .bool true⟩,
  ⟨fValid, [tk 4], .bool true⟩,
  ⟨fSure, [], .bool true⟩]
def factsT : List Fact := [
  ⟨.len, [tk 0], tk 5⟩,
  ⟨.len, [tk 2], tk 5⟩,
  ⟨.len, [tk 3], tk 5⟩,
  ⟨.len, [tk 4], tk 6⟩,
  ⟨.bin .leq tI, [tk 5, i64 1024], .bool true⟩,
  ⟨.bin .leq tI, [tk 6, i64 1024], .bool true⟩,
  ⟨.bin .gtr tI, [tk 5, i64 1024], .bool false⟩,
  ⟨.bin .gtr tI, [tk 6, i64 1024], .bool false⟩,
  ⟨.bin .neq tV, [.agg #[i64 4, i64 0, tk 2], .agg #[i64 4, i64 0, tk 2]], .bool false⟩,
  ⟨.bin .neq tV, [.agg #[i64 4, i64 0, tk 3], .agg #[i64 4, i64 0, tk 3]], .bool false⟩,
  ⟨.bin .neq tV, [.agg #[i64 4, i64 0, tk 4], .agg #[i64 4, i64 0, tk 4]], .bool false⟩]
def appsF : List App := [
  ⟨fMay, [.agg #[i64 4, i64 0, tk 0]], .bool false⟩,
  ⟨fSure, [], .bool true⟩]
def ab (b7 : Bool) : Value := bif b7 then tk 12 else tk 1
def factsN (b1 b2 b3 b4 b5 b6 b7 b8 : Bool) : List Fact := [
  ⟨.bin .quo tI, [tk 1, i64 10000], tk 7⟩,
  ⟨.bin .rem tI, [tk 1, i64 10000], tk 8⟩,
  ⟨.bin .gtr tI, [tk 8, i64 0], .bool b1⟩,
  ⟨.bin .geq tI, [tk 8, i64 5000], .bool b2⟩,
  ⟨.bin .lss tI, [tk 8, i64 0], .bool b3⟩,
  ⟨.neg, [tk 8], tk 9⟩,
  ⟨.bin .geq tI, [tk 9, i64 5000], .bool b4⟩,
  ⟨.bin .add tI, [tk 7, i64 1], tk 10⟩,
  ⟨.bin .sub tI, [tk 7, i64 1], tk 11⟩,
  ⟨.bin .gtr tI, [tk 7, tk 7], .bool false⟩,
  ⟨.bin .gtr tI, [tk 7, tk 10], .bool false⟩,
  ⟨.bin .gtr tI, [tk 11, tk 7], .bool false⟩,
  ⟨.bin .gtr tI, [tk 10, tk 10], .bool false⟩,
  ⟨.bin .sub tI, [tk 7, tk 7], i64 0⟩,
  ⟨.bin .sub tI, [tk 10, tk 7], i64 1⟩,
  ⟨.bin .sub tI, [tk 7, tk 11], i64 1⟩,
  ⟨.bin .lss tI, [tk 7, tk 7], .bool false⟩,
  ⟨.bin .lss tI, [tk 10, tk 7], .bool false⟩,
  ⟨.bin .lss tI, [tk 11, tk 11], .bool false⟩,
  ⟨.bin .lss tI, [tk 7, tk 11], .bool false⟩,
  ⟨.bin .eql tI, [tk 7, tk 7], .bool true⟩,
  ⟨.bin .eql tI, [tk 7, tk 10], .bool false⟩,
  ⟨.bin .eql tI, [tk 11, tk 7], .bool false⟩,
  ⟨.bin .eql tI, [tk 8, i64 0], .bool b5⟩,
  ⟨.bin .eql tI, [tk 1, i64 (-9223372036854775808)], .bool b6⟩,
  ⟨.bin .lss tI, [tk 1, i64 0], .bool b7⟩,
  ⟨.bin .gtr tI, [tk 1, i64 0], .bool b8⟩,
  ⟨.neg, [tk 1], tk 12⟩,
  ⟨.bin .neq tI, [tk 1, tk 12], .bool (!b6 && (b7 || b8))⟩,
  ⟨.bin .geq tI, [ab b7, i64 0], .bool (!b6)⟩,
  ⟨.bin .lss tI, [ab b7, i64 0], .bool b6⟩,
  ⟨.bin .eql tV, [.agg #[i64 3, ab b7, e0], .agg #[i64 3, ab b7, e0]], .bool true⟩,
  ⟨.bin .mul tI, [i64 (bif b7 then -1 else bif b8 then 1 else 0), ab b7], tk 1⟩,
  ⟨.bin .eql tI, [tk 1, tk 1], .bool true⟩]
abbrev Fl := Bool × Bool × Bool × Bool × Bool × Bool × Bool × Bool
def fN (x : Fl) : List Fact := factsN x.1 x.2.1 x.2.2.1 x.2.2.2.1 x.2.2.2.2.1 x.2.2.2.2.2.1 x.2.2.2.2.2.2.1 x.2.2.2.2.2.2.2
noncomputable def cfg (t : Bool) (x : Fl) : Cfg := cfgS Tryz.prog 0 0 (eqsOf Tryz.prog) (appsP (bif t then appsT else appsF)) (bif t then factsT ++ fN x else fN x) (fun _ _ => none)
def ways : List Fl := [
  (false, false, false, false, true, false, false, false),
  (false, false, false, false, true, false, false, true),
  (false, false, false, false, true, false, true, false),
  (true, false, false, false, false, false, false, true),
  (true, true, false, false, false, false, false, true),
  (false, false, true, false, false, false, true, false),
  (false, false, true, true, false, false, true, false),
  (false, false, true, true, false, true, true, false)]
end Go.Proofs.YtchbodpkaiengaaGreatDoor.funcsAgain
