/-
  The walk of num.Put.
-/
import Derived.Test.YtcdldpjmdelebaaNum1
import Derived.Test.YtcdldpjmdelebaaMem
set_option linter.unusedVariables false
set_option linter.unusedSimpArgs false
namespace Go.Proofs.Ytcdldpjmdelebaa
open Go.RowKit

theorem conv_own (w : World) (base : Nat) (v : Value) (l : List UInt8) (h : w.ownsRow base 5 1 v l.length (byteVals l)) (hl : 0 < l.length) :
    (convert 166 9 v).run Try.prog w = .ok (.string ⟨l.toArray⟩) w := by
  obtain ⟨h1, h2⟩ := h
  rcases h2 with ⟨_, h0⟩ | ⟨g, cap, cur, rfl, hg, hh, hn, hcap, hsz, htake⟩
  · omega
  · refine run_convert_bytes_back (P := Try.prog) w 166 9 5 ⟨g, 0, none⟩ cap l Try.underlying166 Try.underlying5 Try.underlying9 (fun j hj => ?_)
    have hc := World.ownsRow.cells (w := w) (base := base) (e := 5) (size := 1) (v := .slice (some ⟨g, 0, none⟩) l.length cap) (n := l.length) (xs := byteVals l) ⟨h1, .inr ⟨g, cap, cur, rfl, hg, hh, hn, hcap, hsz, htake⟩⟩ (g := g) rfl j (.int .u8 (l[j].toNat : Int)) (by simp [byteVals, hj])
    exact hc

theorem Try.row_bytes : ElemRow Try.prog 166 5 (.int .u8 0) 1 1 := ⟨Try.underlying166, Try.info_byte, rfl, by decide, by decide⟩

end Go.Proofs.Ytcdldpjmdelebaa
