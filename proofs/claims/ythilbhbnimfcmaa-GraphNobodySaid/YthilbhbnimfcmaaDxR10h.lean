/- A part of the proof that the interpreter of YthilbhbnimfcmaaDxDx is sound: what it computes of a call, the call comes to in the model. No condition beyond those that each theorem names. -/
import Derived.Test.YthilbhbnimfcmaaDxR10g
import Derived.Laws.BytesString
import Derived.Laws.BytesArg
namespace Go.Proofs.YthilbhbnimfcmaaDx
open Go
set_option linter.unusedVariables false
set_option linter.unusedSimpArgs false
section
variable {c : Cfg} {base : Nat} {ρ : Emb} {h : Hp} {w : World} {T : Tm} {a : Act} {outs : List Out}

theorem bytesL_VR : ∀ {l : List Value} {r : List UInt8} {l' : List Value}, bytesL l = some r → VRL ρ w l l' → ∃ ns : List Int, l' = ns.map (Value.int .u8) ∧ r = ns.map fun n => UInt8.ofNat n.toNat
  | [], r, l', h, hv => by cases h; rw [hv.cases_nil]; exact ⟨[], rfl, rfl⟩
  | v :: l, r, l', h, hv => by
    unfold bytesL at h
    obtain ⟨b, h1, h2⟩ := Option.bind_eq_some_iff.1 h
    obtain ⟨r', h3, rfl⟩ := Option.map_eq_some_iff.1 h2
    obtain ⟨y, ys, rfl, k1, k2⟩ := hv.cases_cons
    obtain ⟨ns, e1, e2⟩ := bytesL_VR h3 k2
    unfold byteV at h1
    split at h1
    · rename_i n
      cases h1
      cases k1
      exact ⟨n :: ns, by simp [e1], by simp [e2]⟩
    · cases h1
/-- Bytes as a text. -/
theorem run_stringD (hc : CfgOk c) {src dst el : TypeId} {ad : Option Addr} {n k : Nat} {y v : Value} (h1 : c.und src = some (.slice el)) (h2 : c.und dst = some .string) (hr : Rel base c.n0 ρ h.t.get w) (hx : VR ρ w (.slice ad n k) y) (ho : stringD c h el ad n = some v) :
    ∃ v', (convert src dst y).run c.P w = .ok v' w ∧ VR ρ w v v' := by
  unfold stringD at ho
  split at ho
  · rename_i hu
    cases ho
    cases hx
    refine ⟨.string ⟨#[]⟩, ?_, .string _⟩
    rw [run_convert_bytes_string w src dst el none 0 0 (hc.und _ _ h1) (hc.und _ _ hu) (hc.und _ _ h2)]
    rfl
  · rename_i b o hu
    obtain ⟨cs, e1, ho⟩ := Option.bind_eq_some_iff.1 ho
    obtain ⟨l, e2, ho⟩ := Option.bind_eq_some_iff.1 ho
    obtain ⟨r, e3, rfl⟩ := Option.map_eq_some_iff.1 ho
    obtain ⟨e4, rfl⟩ := slc_some e2
    have fin : ∀ (k' off cap : Nat) (l' : Array Value), (loadCells ⟨k', off, none⟩ n).run c.P w = .ok l' w → VRL ρ w ((cs.drop o).take n) l'.toList → ∃ v', (convert src dst (.slice (some ⟨k', off, none⟩) n cap)).run c.P w = .ok v' w ∧ VR ρ w (.string ⟨r.toArray⟩) v' := by
      intro k' off cap l' hrun hv
      obtain ⟨ns, f1, f2⟩ := bytesL_VR e3 hv
      have hl : l' = (ns.map (Value.int .u8)).toArray := Array.ext' (by simpa using f1)
      rw [hl] at hrun
      refine ⟨.string ⟨r.toArray⟩, ?_, .string _⟩
      rw [run_convert_bytes_string w src dst el _ _ _ (hc.und _ _ h1) (hc.und _ _ hu) (hc.und _ _ h2), run_bytesToString w _ _ _ ns hrun, foldl_push_bytes, f2]
      simp [ByteArray.empty, ByteArray.emptyWithCapacity]
      rfl
    cases hx with
    | sl b o m sz cc kk d hb hh hro =>
      obtain ⟨k', d', g1, g2⟩ := hr.at_ b _ (cellsAt_some e1)
      rw [hb] at g1
      cases g1
      obtain ⟨cs', h3, h4, h5⟩ := g2.vrl
      obtain ⟨l', f1, f2, f3⟩ := run_cells (c := c) (w1 := w) h3 rfl h4 h5 e4
      exact fin _ _ _ l' f1 f2
    | sl0 b o sz ad =>
      obtain ⟨kb, ko, ks⟩ := ad
      have hz : bytesL ((cs.drop o).take 0) = some r := e3
      have e3' : r = [] := by simp [bytesL] at hz; exact hz
      refine ⟨.string ⟨#[]⟩, ?_, by rw [e3']; exact .string _⟩
      rw [run_convert_bytes_string w src dst el _ _ _ (hc.und _ _ h1) (hc.und _ _ hu) (hc.und _ _ h2), run_bytesToString w _ _ _ [] rfl]
      rfl
  · cases ho
end
end Go.Proofs.YthilbhbnimfcmaaDx
