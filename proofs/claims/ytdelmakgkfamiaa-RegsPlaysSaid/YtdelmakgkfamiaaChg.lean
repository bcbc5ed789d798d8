/- What a call leaves that writes into some blocks alone: all other elder blocks are as they were. -/
import Derived.Test.YtdelmakgkfamiaaBase
namespace Go.Proofs.Ytdelmakgkfamiaa.Chg
open Go.RowKit Go.Proofs.Ytdelmakgkfamiaa.Base
structure Chg (M : Nat → Prop) (w w' : World) : Prop where
  os : w'.os = w.os
  tape : w'.tape = w.tape
  output : w'.output = w.output
  size : w.heap.size ≤ w'.heap.size
  block : ∀ k, k < w.heap.size → ¬M k → w'.heap[k]? = w.heap[k]?
section
variable {M N : Nat → Prop} {w w1 w2 : World}
theorem Chg.refl (M : Nat → Prop) (w : World) : Chg M w w := ⟨rfl, rfl, rfl, Nat.le_refl _, fun _ _ _ => rfl⟩
theorem Chg.trans (h : Chg M w w1) (g : Chg M w1 w2) : Chg M w w2 :=
  ⟨g.os.trans h.os, g.tape.trans h.tape, g.output.trans h.output, Nat.le_trans h.size g.size, fun k hk hm => (g.block k (Nat.lt_of_lt_of_le hk h.size) hm).trans (h.block k hk hm)⟩
theorem Chg.mono (h : Chg M w w1) (hm : ∀ k, M k → N k) : Chg N w w1 := ⟨h.os, h.tape, h.output, h.size, fun k hk hn => h.block k hk (fun e => hn (hm k e))⟩
/-- Blocks that came behind w do not count. -/
theorem Chg.shrink (h : Chg M w w1) (hm : ∀ k, k < w.heap.size → M k → N k) : Chg N w w1 := ⟨h.os, h.tape, h.output, h.size, fun k hk hn => h.block k hk (fun e => hn (hm k hk e))⟩
theorem Chg.alloc (h : Chg M w w1) (o : Obj) : Chg M w (w1.alloc o) :=
  h.trans ⟨rfl, rfl, rfl, by simp, fun k hk _ => Below.heap_alloc _ _ _ hk⟩
theorem Chg.drew (h : Chg M w w1) : Chg M w w1.drew := ⟨h.os, h.tape, h.output, h.size, h.block⟩
theorem Chg.drewN (h : Chg M w w1) (n : Nat) : Chg M w (w1.drewN n) := ⟨h.os, h.tape, h.output, h.size, h.block⟩
theorem Chg.set (h : Chg M w w1) {p : Addr} (hp : M p.block) (u : Value) : Chg M w (w1.setCell p u) :=
  h.trans ⟨rfl, rfl, rfl, by simp [World.setCell], fun k _ hm => Below.heap_setCell _ _ _ _ (fun e => hm (e ▸ hp))⟩
theorem Chg.of_below (h : Below w.heap.size w w1) : Chg M w w1 := ⟨h.os, h.tape, h.output, h.size, fun k hk _ => h.block k hk⟩
theorem Chg.below (h : Chg (fun _ => False) w w1) : Below w.heap.size w w1 := ⟨h.os, h.tape, h.output, h.size, fun k hk => h.block k hk (fun e => e)⟩
theorem Chg.blk (h : Chg M w w1) {b : Nat} {cs : Array Value} {t : TypeId} (hb : Blk w b cs t) (hm : ¬M b) : Blk w1 b cs t := (h.block b hb.lt hm).trans hb
theorem Chg.cell (h : Chg M w w1) {p : Addr} {v : Value} (hc : w.cell? p = some v) (hm : ¬M p.block) : w1.cell? p = some v :=
  (World.cell?_of_block (h.block p.block (World.block_lt_of_cell? w p hc) hm)).trans hc
/-- What was made behind B is turned alone. -/
theorem below_chg {B : Nat} (h : Below B w w1) (hB : B ≤ w1.heap.size) (g : Chg M w1 w2) (hm : ∀ k, M k → B ≤ k) : Below B w w2 :=
  ⟨g.os.trans h.os, g.tape.trans h.tape, g.output.trans h.output, Nat.le_trans h.size g.size, fun k hk => (g.block k (Nat.lt_of_lt_of_le hk hB) (fun e => by have := hm k e; omega)).trans (h.block k hk)⟩
theorem below_chg' (h : Below w.heap.size w w1) (g : Chg M w1 w2) (hm : ∀ k, M k → w.heap.size ≤ k) : Below w.heap.size w w2 := below_chg h h.size g hm
end
end Go.Proofs.Ytdelmakgkfamiaa.Chg
