/- A part of the proof of this claim. No condition beyond those that each theorem names. -/
import Derived.Test.YtaiokpmmjbiajaaGreatDoorProg
import Derived.Below
import Derived.Deep.Draws
import Derived.Deep.AppendLies
import Derived.Maps.AppendAt
import Derived.OwnWalk
import Derived.Laws.BytesArg
import Derived.Laws.MakeOwn
import Derived.Laws.OwnMore
import Derived.Deep.OwnRows
import Derived.Tactics
import Derived.Lib.ConvBytes
import Derived.Laws.Slices
import Derived.WalkKit
import Derived.KernelRfl
import Derived.RowKit3
import Derived.Deep.LoopGhost
import Derived.Deep.QuietTactic
import Derived.BigQuiet
import Derived.WideLaws
import Derived.Deep.DeepCutAuto
import Derived.Deep.CutBlock
import Derived.Deep.RegionHeld3
import Derived.Laws.Rows
import Derived.Lib.AppendStr
import Derived.ArgAppend
import Derived.Laws.IdiomCopy
import Derived.OrdersHeld
import Derived.Laws.BitsLemmas
import Derived.RowKit
import Derived.Deep.CutRange
import Derived.Laws.Cover4
import Derived.Laws.IdiomStrings
import Derived.Lib.Hide
import Derived.Lib.ItoaLen
import Derived.Lib.SmallJoins
import Derived.Test.YtaiokpmmjbiajaaGreatDoorABase
import Derived.WalkLawsBesides
import Derived.WalkSpells
import Derived.Test.YtaiokpmmjbiajaaGreatDoorAW0
namespace Go.Proofs.YtaiokpmmjbiajaaGreatDoor.PLeaf
open Go.RowKit Go.Proofs.YtaiokpmmjbiajaaGreatDoorW.PrintWords Go.Proofs.YtaiokpmmjbiajaaGreatDoorW.PrintLast Go.Proofs.YtaiokpmmjbiajaaGreatDoorW.PrintMore
attribute [local go_sem] yD yn QO QU xu xH yE yI
set_option linter.unusedVariables false
set_option linter.unusedSimpArgs false
def rS:Option Int→Value
 |none=> .nilIface
 |some c=> .iface 0 (.int .i64 c)
theorem vT:rS none= .nilIface:=rfl
theorem vW (c:Int):rS (some c)= .iface 0 (.int .i64 c):=rfl
structure S24 where
 f0:Int
 f1:Int
 f2:ByteArray
def k24:Kd S24:=Kd.iso (Kd.pair (Kd.int .i64) (Kd.pair (Kd.int .i64) Kd.string)) (fun x:S24=>(x.f0,x.f1,x.f2))
theorem z1 {p:Prop} (h:p:=by repeat' first|(with_reducible exact ih0 _ _ _ _ _)|(with_reducible exact qU.mono _ _)|(with_reducible exact qq.mono _ _ _ _)|(with_reducible exact ql.mono _ _)|(with_reducible exact LeO.refl _)|(with_reducible exact LeO.none _)|(with_reducible refine LeO.ite ?_ ?_)|(with_reducible refine LeO.bind ?_ (fun _=> ?_))|exact ih0 _ _ _ _ _|exact qU.mono _ _|exact qq.mono _ _ _ _|exact ql.mono _ _|exact LeO.none _|refine LeO.ite ?_ ?_|refine LeO.bind ?_ (fun _=> ?_)):p:=h
theorem z2 {p:Prop} (h:p:=by repeat' first|(with_reducible exact ih0 _ _)|(with_reducible exact ih1 _ _ _ _ _)|(with_reducible exact ih2 _ _ _ _ _ _)|(with_reducible exact ih3 _ _ _ _)|(with_reducible exact ih4 _ _ _ _)|(with_reducible exact LeO.refl _)|(with_reducible exact LeO.none _)|(with_reducible refine LeO.ite ?_ ?_)|(with_reducible refine LeO.bind ?_ (fun _=> ?_))|exact ih0 _ _|exact ih1 _ _ _ _ _|exact ih2 _ _ _ _ _ _|exact ih3 _ _ _ _|exact ih4 _ _ _ _|exact LeO.none _|refine LeO.ite ?_ ?_|refine LeO.bind ?_ (fun _=> ?_)):p:=h
theorem z3 {p:Prop} (h:p:=by repeat' first|(with_reducible exact ih0 _ _)|(with_reducible exact ih1 _ _ _)|(with_reducible exact qk.mono _ _)|(with_reducible exact LeO.refl _)|(with_reducible exact LeO.none _)|(with_reducible refine LeO.ite ?_ ?_)|(with_reducible refine LeO.bind ?_ (fun _=> ?_))|exact ih0 _ _|exact ih1 _ _ _|exact qk.mono _ _|exact LeO.none _|refine LeO.ite ?_ ?_|refine LeO.bind ?_ (fun _=> ?_)):p:=h
theorem z4 {p:Prop} (h:p:=by repeat' first|(with_reducible exact ih0 _ _ _ _ _)|(with_reducible exact qc.mono _ _)|(with_reducible exact LeO.refl _)|(with_reducible exact LeO.none _)|(with_reducible refine LeO.ite ?_ ?_)|(with_reducible refine LeO.bind ?_ (fun _=> ?_))|exact ih0 _ _ _ _ _|exact qc.mono _ _|exact LeO.none _|refine LeO.ite ?_ ?_|refine LeO.bind ?_ (fun _=> ?_)):p:=h
theorem z5 {p:Prop} (h:p:=by repeat' first|(with_reducible exact ih0 _ _)|(with_reducible exact LeO.refl _)|(with_reducible exact LeO.none _)|(with_reducible refine LeO.ite ?_ ?_)|(with_reducible refine LeO.bind ?_ (fun _=> ?_))|exact ih0 _ _|exact LeO.none _|refine LeO.ite ?_ ?_|refine LeO.bind ?_ (fun _=> ?_)):p:=h
theorem z6 {p:Prop} (h:p:=by exact⟨by first|rfl|(simp[vT,vW]<;>rfl)|(simp[*,vT,vW]<;>rfl),by repeat (first|(with_reducible first|exact HB.out|apply zm|apply q7|apply zr|refine wx ?_ yy.out)|exact HB.out)⟩):p:=h
theorem z7 {p:Prop} (h:p:=by exact⟨by first|rfl|(simp[vT,vW]<;>rfl)|(simp[*,vT,vW]<;>rfl),by repeat (first|(with_reducible first|exact HB.out|apply zm|apply q7|apply zr|refine wx ?_ ZZ.out)|exact HB.out)⟩):p:=h
theorem z8 {p:Prop} (h:p:=by exact⟨by first|rfl|(simp[vT,vW]<;>rfl)|(simp[*,vT,vW]<;>rfl),by repeat (first|(with_reducible first|exact HB.out|apply zm|apply q7|apply zr)|exact HB.out)⟩):p:=h
theorem z9 {p:Prop} (h:p:=by exact⟨by first|rfl|(simp;done)|(simp only[←Xo]<;>(first|rfl|simp))|(simp[*];done),by repeat (first|exact zk.refl _|apply zk.step)⟩):p:=h
theorem za {p:Prop} (h:p:=by exact⟨by first|rfl|(simp;done)|(simp[*];done),by repeat (first|exact zk.refl _|apply zk.step)⟩):p:=h
theorem zb {p:Prop} (h:p:=by repeat (first|(with_reducible first|exact HB.out|apply zm|apply q7|apply zr|refine wx ?_ yy.out)|exact HB.out)):p:=h
theorem zc {p:Prop} (h:p:=by(try simp only[List.map_toArray,List.map_cons,List.map_nil]);first|done|rfl|(simp only[List.length_drop,List.length_take];rfl)):p:=h
theorem zd {p:Prop} (h:p:=by repeat (first|(with_reducible first|exact HB.out|apply zm|apply q7|apply zr)|exact HB.out)):p:=h
theorem ze {p:Prop} (h:p:=by(with_reducible repeat (first|refine jH ?_ _|refine xE ?_|refine jF ?_ _));exact qF.out):p:=h
theorem zf {p:Prop} (h:p:=by unfold zJ.f;rw[if_pos rfl,if_pos z14,if_pos z14];congr 5<;>omega):p:=h
theorem z10 {p:Prop} (h:p:=by first|(with_reducible assumption)|assumption):p:=h
theorem z11 {p:Prop} (h:p:=by first|rfl|(simp;done)|(simp[*];done)):p:=h
theorem z12 {p:Prop} (h:p:=by rw[sz];omega):p:=h
theorem z13 {p:Prop} (h:p:=by kernel_rfl):p:=h
theorem z14 {p:Prop} (h:p:=by omega):p:=h
theorem z15 {p:Prop} (h:p:=by simp):p:=h
end Go.Proofs.YtaiokpmmjbiajaaGreatDoor.PLeaf
