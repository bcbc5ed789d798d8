/- The law PickNext, walked: its printed contract at its pure statement. -/
import Derived.Test.YtpegikbjgckjnaaPurePickNext
import Derived.Test.YtpegikbjgckjnaaArgs
namespace Go.Proofs.Ytpegikbjgckjnaa.WalkPickNext
open Go.RowKit Go.Proofs.Ytpegikbjgckjnaa.PPickNext Go.Proofs.YtpegikbjgckjnaaW.PrintWords Go.Proofs.Ytpegikbjgckjnaa.Args
theorem law (a0 : Int) (A : Option Addr) (len cap : Nat) (l : List Int) (W : World) (_w0 : (Lit.int .i64 a0).wf = true) (w1 : RowIn .i64 W A len cap l) :
    Calls Try.prog 13 #[.int .i64 a0, .slice A len cap] W fun e w' => e = .returned (.bool true) ∧ Below W.heap.size W w' := by
  obtain ⟨rfl, hle, hm, hc, _⟩ := w1
  obtain ⟨k, h⟩ := Pure.PickNext_any a0 l
  have hr : ReadsInt W .i64 A l.length l := ⟨rfl, by omega, fun hn => by
    obtain ⟨ad, e, _⟩ := hc 0 hn
    refine ⟨ad, e, fun j hj => ?_⟩
    obtain ⟨ad', e', hcell⟩ := hc j hj
    rw [e] at e'
    injection e' with e'
    subst e'
    rw [hcell, List.getD_eq_getElem?_getD]⟩
  refine (cubbyholelaw20_PickNext.calls k a0 _ _ l true W (Kd.C_of_reads (d := (0 : Int)) (h1 := fun _ => rfl) hr) hle h).mono ?_
  rintro e w' ⟨rfl, hd⟩
  exact ⟨rfl, hd⟩
end Go.Proofs.Ytpegikbjgckjnaa.WalkPickNext
