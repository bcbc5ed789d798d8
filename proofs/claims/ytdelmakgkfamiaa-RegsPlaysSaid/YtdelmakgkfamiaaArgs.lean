/- What a law's arguments are: of whatever type of whole numbers, bools, structs and arrays of these, and slices: each cell is a number or a bool, or a slice of numbers. And how a law's row comes of its walk. -/
import Derived.WalkKit
import Derived.ProofKit
import Derived.OpenShut
import Derived.ChangeOld
import Derived.Below
import Derived.SizedLaws
import Derived.Deep.Slices
import Derived.KernelRfl
namespace Go.Proofs.Ytdelmakgkfamiaa.Args
open Go.RowKit Go.ChangeShapes Go.WideShapes Go.Deep

/-- A slice of whole numbers that is only read. -/
structure RowIn (k : IntKind) (w : World) (a : Option Addr) (len cap : Nat) (l : List Int) : Prop where
  length : l.length = len
  le : len ≤ cap
  max : cap ≤ 9223372036854775807
  cell : ∀ i, i < len → ∃ ad, a = some ad ∧ w.cell? (ad.add i) = some (.int k (l[i]?.getD 0))
  wf : ∀ i, i < len → (Lit.int k (l[i]?.getD 0)).wf = true

/-- What a cell holds. -/
inductive LK where
  | int (k : IntKind)
  | bool
  | ints (k : IntKind)
def LK.ok (w : World) : LK → Value → Prop
  | .int k, v => ∃ n, v = .int k n ∧ (Lit.int k n).wf = true
  | .bool, v => ∃ b, v = .bool b
  | .ints k, v => ∃ a len cap l, v = .slice a len cap ∧ RowIn k w a len cap l

def reps (l : List LK) : Nat → List LK
  | 0 => []
  | n + 1 => l ++ reps l n
def fieldLeafs (f : TypeId → Option (List LK)) (P : Program) : List Field → Nat → Option (List LK)
  | [], _ => some []
  | x :: r, o => if x.offset = o then (f x.type).bind fun l => if l.length = P.cellsOf x.type then (fieldLeafs f P r (o + l.length)).map (l ++ ·) else none else none
/-- The leaves of a type: what each of its cells holds. -/
def leafs (P : Program) : Nat → TypeId → Option (List LK)
  | 0, _ => none
  | n + 1, t => match P.underlying t with
    | some (.int k) => some [.int k]
    | some .bool => some [.bool]
    | some (.slice e) => match P.underlying e with
      | some (.int k) => if P.cellsOf e = 1 then some [.ints k] else none
      | _ => none
    | some (.struct fs) => fieldLeafs (leafs P n) P fs.toList 0
    | some (.array m e) => (leafs P n e).bind fun l => if l.length = P.cellsOf e then some (reps l m) else none
    | _ => none

/-- Each cell is as told. -/
def Holds (w : World) (ks : List LK) (cs : List Value) : Prop := ∀ (j : Nat) (k : LK), ks[j]? = some k → ∃ v, cs[j]? = some v ∧ k.ok w v

section
variable {H : Type} {enc : TypeId × Value → H} {P : Program} {w : World} {base : Nat} {spare : Nat → Bool} {held : Bool}

theorem row_ints {t e : TypeId} {k : IntKind} {fuel : Nat} {a : Option Addr} {len cap : Nat} {x : DataW H × List MemPlace} (ht : P.underlying t = some (.slice e)) (he : P.underlying e = some (.int k)) (hc : P.cellsOf e = 1)
    (h : DataW.trod enc P w base spare held fuel t [.slice a len cap] = some x) : ∃ l, RowIn k w a len cap l := by
  rcases open_ints ht he hc h with ⟨hcs, _⟩ | ⟨ad, n, c, zs, hcs, _, hl, hm, hz, _, hcell, hwz⟩
  · simp at hcs
    obtain ⟨rfl, rfl, rfl⟩ := hcs
    exact ⟨[], rfl, by omega, by omega, fun i hi => by omega, fun i hi => by omega⟩
  · simp at hcs
    obtain ⟨rfl, rfl, rfl⟩ := hcs
    have hlen : len ≤ zs.length := by rw [hz]; split <;> omega
    have g : ∀ i, i < len → (zs.take len)[i]?.getD 0 = zs.getD i 0 := fun i hi => by rw [List.getElem?_take, if_pos hi, List.getD_eq_getElem?_getD]
    refine ⟨zs.take len, by rw [List.length_take]; omega, hl, hm, fun i hi => ⟨ad, rfl, ?_⟩, fun i hi => ?_⟩
    · rw [g i hi]; exact hcell i (by omega)
    · rw [g i hi]
      refine hwz _ ?_
      rw [List.getD_eq_getElem?_getD, List.getElem?_eq_getElem (show i < zs.length by omega)]
      exact List.getElem_mem _
theorem holds_one {k : LK} {v : Value} (h : k.ok w v) : Holds w [k] [v] := by
  intro j k' hj
  match j, hj with
  | 0, hj => simp at hj; subst hj; exact ⟨v, rfl, h⟩
theorem holds_fields {f : TypeId → Option (List LK)} {n : Nat}
    (ih : ∀ {t ks cs x}, f t = some ks → DataW.trod enc P w base spare held n t cs = some x → Holds w ks cs) {cs : List Value} :
    ∀ (fs : List Field) (o : Nat) (ks : List LK), fieldLeafs f P fs o = some ks → (∀ x, x ∈ fs → ∃ y, DataW.trod enc P w base spare held n x.type ((cs.drop x.offset).take (P.cellsOf x.type)) = some y) →
      ∀ (j : Nat) (k : LK), ks[j]? = some k → ∃ v, cs[o + j]? = some v ∧ k.ok w v
  | [], o, ks, h, _ => by
    simp [fieldLeafs] at h; subst h
    intro j k hj; simp at hj
  | x :: r, o, ks, h, hx => by
    unfold fieldLeafs at h
    split at h
    · rename_i ho
      obtain ⟨l, hl, h⟩ := Option.bind_eq_some_iff.1 h
      split at h
      · rename_i hlc
        obtain ⟨r', hr', rfl⟩ := Option.map_eq_some_iff.1 h
        obtain ⟨y, hy⟩ := hx x (List.mem_cons_self ..)
        have h1 := ih hl hy
        have h2 := holds_fields ih r (o + l.length) r' hr' (fun z hz => hx z (List.mem_cons_of_mem _ hz))
        intro j k hj
        rcases Nat.lt_or_ge j l.length with hjl | hjl
        · rw [List.getElem?_append_left hjl] at hj
          obtain ⟨v, hv, hk⟩ := h1 j k hj
          rw [List.getElem?_take, if_pos (by omega), List.getElem?_drop, ho] at hv
          exact ⟨v, hv, hk⟩
        · rw [List.getElem?_append_right hjl] at hj
          obtain ⟨v, hv, hk⟩ := h2 _ k hj
          exact ⟨v, by rw [← hv]; congr 1; omega, hk⟩
      · cases h
    · cases h
theorem holds_reps {l : List LK} {cs : List Value} : ∀ (m o : Nat), (∀ i, i < m → Holds w l ((cs.drop (o + i * l.length)).take l.length)) → ∀ (j : Nat) (k : LK), (reps l m)[j]? = some k → ∃ v, cs[o + j]? = some v ∧ k.ok w v
  | 0, o, _ => by intro j k hj; simp [reps] at hj
  | m + 1, o, h => by
    intro j k hj
    unfold reps at hj
    rcases Nat.lt_or_ge j l.length with hjl | hjl
    · rw [List.getElem?_append_left hjl] at hj
      obtain ⟨v, hv, hk⟩ := h 0 (by omega) j k hj
      rw [List.getElem?_take, if_pos hjl, List.getElem?_drop] at hv
      exact ⟨v, by rw [← hv]; congr 1; omega, hk⟩
    · rw [List.getElem?_append_right hjl] at hj
      obtain ⟨v, hv, hk⟩ := holds_reps m (o + l.length) (fun i hi => by
        have := h (i + 1) (by omega)
        rw [Nat.succ_mul] at this
        rwa [show o + l.length + i * l.length = o + (i * l.length + l.length) from by omega]) _ k hj
      exact ⟨v, by rw [← hv]; congr 1; omega, hk⟩
theorem holds_of_trod : ∀ (n : Nat) {fuel : Nat} {t : TypeId} {ks : List LK} {cs : List Value} {x : DataW H × List MemPlace}, leafs P n t = some ks → DataW.trod enc P w base spare held fuel t cs = some x → Holds w ks cs
  | 0, fuel, t, ks, cs, x, hk, h => by simp [leafs] at hk
  | n + 1, fuel, t, ks, cs, x, hk, h => by
    unfold leafs at hk
    split at hk
    · rename_i k hu
      injection hk with hk; subst hk
      obtain ⟨m, rfl, _, wf⟩ := DataW.trod_int hu h
      exact holds_one ⟨m, rfl, wf⟩
    · rename_i hu
      injection hk with hk; subst hk
      obtain ⟨b, rfl, _⟩ := DataW.trod_bool hu h
      exact holds_one ⟨b, rfl⟩
    · rename_i e hu
      split at hk
      · rename_i k he
        split at hk
        · rename_i hc
          injection hk with hk; subst hk
          rcases open_ints hu he hc h with ⟨rfl, _⟩ | ⟨ad, len, cap, zs, rfl, _⟩
          · obtain ⟨l, hl⟩ := row_ints hu he hc h
            exact holds_one ⟨_, _, _, l, rfl, hl⟩
          · obtain ⟨l, hl⟩ := row_ints hu he hc h
            exact holds_one ⟨_, _, _, l, rfl, hl⟩
        · cases hk
      · cases hk
    · rename_i fs hu
      obtain ⟨xs, m, _, _, hcl, hxl, hf⟩ := DataW.trod_struct hu h
      intro j k hj
      have := holds_fields (cs := cs) (fun {t ks cs x} hk h => holds_of_trod n (t := t) (ks := ks) (cs := cs) (x := x) hk h) fs.toList 0 ks hk (fun z hz => by
        obtain ⟨i, hi, rfl⟩ := List.mem_iff_getElem.1 hz
        have hi' : i < fs.size := by simpa using hi
        have h1 := hf i fs[i] (Array.getElem?_eq_getElem hi')
        rw [List.getElem?_eq_getElem (show i < xs.length by omega)] at h1
        exact ⟨_, by simpa using h1⟩) j k hj
      simpa using this
    · rename_i m e hu
      obtain ⟨l, hl, hk⟩ := Option.bind_eq_some_iff.1 hk
      split at hk
      · rename_i hlc
        injection hk with hk; subst hk
        obtain ⟨xs, q, _, _, hcl, hxl, hf⟩ := DataW.trod_array hu h
        intro j k hj
        have := holds_reps (w := w) (l := l) (cs := cs) m 0 (fun i hi => by
          have h1 := hf i hi
          rw [List.getElem?_eq_getElem (show i < xs.length by omega)] at h1
          rw [Nat.zero_add, hlc]
          exact holds_of_trod n hl h1) j k hj
        simpa using this
      · cases hk
    · cases hk
/-- A slice of whatever has such leaves: value j of element i. -/
structure RowsIn (ks : List LK) (w : World) (a : Option Addr) (len cap : Nat) (F : Nat → Nat → Value) : Prop where
  le : len ≤ cap
  max : cap ≤ 9223372036854775807
  cell : ∀ (i j : Nat) (k : LK), i < len → ks[j]? = some k → k.ok w (F i j) ∧ ∃ ad, a = some ad ∧ w.cell? (ad.add (i * ks.length + j)) = some (F i j)
theorem rows_in {t e : TypeId} {ks : List LK} {n fuel : Nat} {a : Option Addr} {len cap : Nat} {x : DataW H × List MemPlace} (ht : P.underlying t = some (.slice e)) (hk : leafs P n e = some ks) (hc : P.cellsOf e = ks.length)
    (h : DataW.trod enc P w base spare held fuel t [.slice a len cap] = some x) : ∃ F, RowsIn ks w a len cap F := by
  rcases open_slice ht h with ⟨hcs, _⟩ | ⟨ad, l, c, m, q, D, Pl, hcs, _, hl, hm, hmm, _, hi⟩
  · simp at hcs
    obtain ⟨rfl, rfl, rfl⟩ := hcs
    exact ⟨fun _ _ => .bool false, by omega, by omega, fun i j k hi => by omega⟩
  · simp at hcs
    obtain ⟨rfl, rfl, rfl⟩ := hcs
    have hlm : len ≤ m := by rw [hmm]; split <;> omega
    refine ⟨fun i j => (w.cell? (ad.add (i * ks.length + j))).getD (.bool false), hl, hm, fun i j k hil hj => ?_⟩
    obtain ⟨cs', hc', ht'⟩ := hi i (by omega)
    obtain ⟨v, hv, hok⟩ := holds_of_trod n hk ht' j k hj
    obtain ⟨_, hcl, hat⟩ := World.cells?_some hc'
    have hjl : j < ks.length := (List.getElem?_eq_some_iff.1 hj).1
    have h1 := hat j (by omega)
    rw [Go.Deep.add_add, hv, hc] at h1
    rw [h1, Option.getD_some]
    exact ⟨hok, ad, rfl, h1⟩
end
theorem holds_cons {w : World} {k : LK} {ks : List LK} {cs : List Value} (h : Holds w (k :: ks) cs) : ∃ v r, cs = v :: r ∧ k.ok w v ∧ Holds w ks r := by
  obtain ⟨v, hv, hk⟩ := h 0 k rfl
  cases cs with
  | nil => simp at hv
  | cons c r =>
    simp at hv
    subst hv
    exact ⟨c, r, rfl, hk, fun j k' hj => by
      obtain ⟨v, hv, hk⟩ := h (j + 1) k' (by simpa using hj)
      exact ⟨v, by simpa using hv, hk⟩⟩
theorem okWide_agg {P : Program} {w : World} {r : Reach} {base : Nat} {t : TypeId} {v : Value} {u : TypeDesc} (ht : P.underlying t = some u) (hu : (∃ fs, u = .struct fs) ∨ ∃ m e, u = .array m e) (h : Value.okWide P w r base t v) : ∃ cs, v = .agg cs ∧ cs.size = P.cellsOf t := by
  unfold Value.okWide at h
  rcases hu with ⟨fs, rfl⟩ | ⟨m, e, rfl⟩ <;> · rw [ht] at h; obtain ⟨cs, h1, h2, _⟩ := h; exact ⟨cs, h1, h2⟩
theorem row_below {k : IntKind} {w w' : World} {a : Option Addr} {len cap : Nat} {l : List Int} (h : RowIn k w a len cap l) (hb : Below w.heap.size w w') : RowIn k w' a len cap l :=
  ⟨h.length, h.le, h.max, fun i hi => by
    obtain ⟨ad, e, hc⟩ := h.cell i hi
    exact ⟨ad, e, (hb.cell (World.block_lt_of_cell? w _ hc)).trans hc⟩, h.wf⟩
theorem ok_below {k : LK} {w w' : World} {v : Value} (h : k.ok w v) (hb : Below w.heap.size w w') : k.ok w' v := by
  cases k with
  | int k => exact h
  | bool => exact h
  | ints k =>
    obtain ⟨a, len, cap, l, rfl, hr⟩ := h
    exact ⟨a, len, cap, l, rfl, row_below hr hb⟩
theorem rows_below {ks : List LK} {w w' : World} {a : Option Addr} {len cap : Nat} {F : Nat → Nat → Value} (h : RowsIn ks w a len cap F) (hb : Below w.heap.size w w') : RowsIn ks w' a len cap F :=
  ⟨h.le, h.max, fun i j k hi hj => by
    obtain ⟨hok, ad, e, hc⟩ := h.cell i j k hi hj
    exact ⟨ok_below hok hb, ad, e, (hb.cell (World.block_lt_of_cell? w _ hc)).trans hc⟩⟩
end Go.Proofs.Ytdelmakgkfamiaa.Args
