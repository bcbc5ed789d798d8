/- Every three tags that it must not be, and every draw: there is one left, and it is got (pure statement). -/
import Derived.Test.YtpegikbjgckjnaaPPickThreex1
import Derived.Test.YtpegikbjgckjnaaPickTPickThree
namespace Go.Proofs.Ytpegikbjgckjnaa.Pure
open Go.RowKit Go.Proofs.Ytpegikbjgckjnaa.PPickThree Go.Proofs.YtpegikbjgckjnaaW.PrintWords Go.Proofs.YtpegikbjgckjnaaW.PrintLast
open Go.Proofs.Ytpegikbjgckjnaa.PickMath Go.Proofs.Ytpegikbjgckjnaa.PickTPickThree

theorem PickThree : cubbyholelaw20_PickThree.Pure := by
  intro a b draw _ _ _
  refine ⟨100, ?_⟩
  unfold cubbyholelaw20_PickThree.f
  rw [of_ draw [a, b, Go.bits .xor .i64 a b] 100 (by simp) (by simp), awake_ 100 (by omega)]
  simp only [Option.bind_some, if_true]
  generalize Go.bits .xor .i64 a b = c
  obtain ⟨t0, h0⟩ := three a b c
  have hp := List.length_pos_of_mem h0
  have hz : (may [a, b, c]).length ≠ 0 := by omega
  simp only [hz, if_false]
  have hm := rd_mem (may [a, b, c]) draw hp
  generalize rd (may [a, b, c]) (draw % ((may [a, b, c]).length : Int)) = t at *
  obtain ⟨h1, h2, h3⟩ := mem_may.1 hm
  simp at h3
  rw [if_pos h1, if_pos h2, if_neg h3.1, if_neg h3.2.1]
  simp [h3.2.2]

end Go.Proofs.Ytpegikbjgckjnaa.Pure
