/- A whole block read, written, handed back. -/
import Derived.Test.YtdelmakgkfamiaaChg
import Derived.Deep.MidRow
namespace Go.Proofs.Ytdelmakgkfamiaa.BlkMore
open Go.RowKit Go.Proofs.Ytdelmakgkfamiaa.Base Go.Proofs.Ytdelmakgkfamiaa.Chg
def putAll (cs : Array Value) (o : Nat) : List Value → Array Value
  | [] => cs
  | v :: r => putAll (cs.setIfInBounds o v) (o + 1) r
theorem size_putAll : ∀ (vs : List Value) (cs : Array Value) (o : Nat), (putAll cs o vs).size = cs.size
  | [], _, _ => rfl
  | v :: r, cs, o => by unfold putAll; rw [size_putAll r]; simp
theorem get_putAll : ∀ (vs : List Value) (cs : Array Value) (o j : Nat), o + vs.length ≤ cs.size → (putAll cs o vs)[j]? = if o ≤ j ∧ j < o + vs.length then vs[j - o]? else cs[j]?
  | [], cs, o, j, _ => by unfold putAll; rw [if_neg (by simp only [List.length_nil]; omega)]
  | v :: r, cs, o, j, h => by
    unfold putAll
    simp only [List.length_cons] at h
    rw [get_putAll r _ (o + 1) j (by simp; omega)]
    simp only [List.length_cons]
    by_cases h1 : j = o
    · subst h1
      rw [if_neg (by omega), if_pos (by omega), Nat.sub_self, Array.getElem?_setIfInBounds, if_pos rfl, if_pos (by omega)]
      rfl
    · by_cases h2 : o ≤ j ∧ j < o + (r.length + 1)
      · rw [if_pos (by omega), if_pos h2]
        obtain ⟨d, rfl⟩ : ∃ d, j = o + 1 + d := ⟨j - o - 1, by omega⟩
        rw [show o + 1 + d - (o + 1) = d by omega, show o + 1 + d - o = d + 1 by omega]
        rfl
      · rw [if_neg (by omega), if_neg h2, Array.getElem?_setIfInBounds, if_neg (by omega)]
theorem putAll_whole (cs ds : Array Value) (h : ds.size = cs.size) : putAll cs 0 ds.toList = ds := by
  apply Array.ext_getElem?
  intro j
  rw [get_putAll _ _ _ _ (by simp; omega)]
  by_cases hj : j < ds.size
  · rw [if_pos (by simp; omega)]; simp
  · rw [if_neg (by simp; omega), Array.getElem?_eq_none (by omega), Array.getElem?_eq_none (by omega)]
section
variable {w w1 : World} {b : Nat} {cs : Array Value} {t : TypeId}
theorem blk_setCells (h : Blk w b cs t) (vs : List Value) (o : Nat) : Blk (w.setCells b o vs) b (putAll cs o vs) t := by
  induction vs generalizing w cs o with
  | nil => exact h
  | cons v r ih => exact ih (h.set o v) (o + 1)
theorem chg_setCells (w : World) (b : Nat) (vs : List Value) (o : Nat) : Chg (· = b) w (w.setCells b o vs) := by
  induction vs generalizing w o with
  | nil => exact Chg.refl _ _
  | cons v r ih => exact ((Chg.refl (· = b) w).set (p := ⟨b, o, none⟩) rfl v).trans (ih _ _)
theorem blk_there (h : Blk w b cs t) : w.there b 0 cs.size := fun j hj => ⟨by rw [Nat.zero_add, h.cell, Array.getElem?_eq_getElem hj]; rfl, h.frozen _⟩
/-- A whole block is read. -/
theorem run_loadAt_blk {P : Program} (hb : Blk w b cs t) {ty : TypeId} {d : TypeDesc} (hu : P.underlying ty = some d) (hd : (match d with | .struct _ | .array _ _ => true | _ => false) = true) (hi : (P.info? ty).map (·.size) = some cs.size) :
    (Instr.loadAt ty (.pointer (some ⟨b, 0, none⟩))).run P w = .ok (.agg cs) w := by
  simp only [Instr.loadAt, Instr.sureAddr, Sem.run_bind, Sem.run_pure, Result.andThen_ok, run_loadVar_row w b t ty cs (0, 0) d hb hu hd hi]
/-- In a region that draws its order. -/
theorem quiet_load_blk {P : Program} {o : Oper} {a : Act} {C : World → Prop} {K : Act → Prop} {ty : TypeId} {x : Operand} (ho : o.op = .load ty x) {b : Nat} (hx : a.eval x = .pointer (some ⟨b, 0, none⟩)) {cs : Array Value}
    (hl : ∀ w, C w → (Instr.loadAt ty (.pointer (some ⟨b, 0, none⟩))).run P w = .ok (.agg cs) w) (h : K (a.put o.dst (.agg cs))) : o.quiet P a C K :=
  ⟨.agg cs, fun w hw => by
    unfold Oper.quietAt execOp
    simp only [ho, hx, Sem.run_bind, hl w hw, Result.andThen_ok, Sem.run_pure]
    exact ⟨rfl, rfl⟩, h⟩
/-- A whole block is written anew. -/
theorem wpList_store_blk {P : Program} {ops : Array Oper} {rest : List Oper} {op : Oper} {a : Act} {Q : Exit → Act → World → Prop} (hgd : op.guard = none) (ty : TypeId) (x y : Operand) (ho : op.op = .store ty x y)
    (b : Nat) (cells : Array Value) (hx : a.eval x = .pointer (some ⟨b, 0, none⟩)) (hy : a.eval y = .agg cells) {cs : Array Value} {t : TypeId} (hb : Blk w b cs t) (hs : cells.size = cs.size)
    (hi : (P.info? ty).map (·.size) = some cells.size) (h1 : cells.all (·.oneCell') = true)
    (h : ∀ w', Blk w' b cells t → Chg (· = b) w w' → w'.heap.size = w.heap.size → wpList P ops Q rest (a.put op.dst undef) w') : wpList P ops Q (op :: rest) a w := by
  refine wpList_store_mid hgd ty x y ho b 0 cells hx hy (by rw [hs]; exact blk_there hb) hi h1 (h _ ?_ (chg_setCells _ _ _ _) ?_)
  · have := blk_setCells hb cells.toList 0
    rwa [putAll_whole _ _ hs] at this
  · have : ∀ (vs : List Value) (o : Nat) (w : World), (w.setCells b o vs).heap.size = w.heap.size := by
      intro vs
      induction vs with
      | nil => intro o w; rfl
      | cons v r ih => intro o w; exact (ih _ _).trans (by simp [World.setCell])
    exact this _ _ _
end
end Go.Proofs.Ytdelmakgkfamiaa.BlkMore
