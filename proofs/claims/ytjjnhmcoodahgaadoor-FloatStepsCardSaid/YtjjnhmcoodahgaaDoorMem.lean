/- Words on memory: what a slice reads as, what a call's own block holds, how worlds grow. Nothing of the program. -/
import Derived.Below
import Derived.Laws.IdiomStrings
import Derived.OwnWalk
import Derived.WalkKit
import Derived.Deep.OwnRows
import Derived.Deep.Draws
import Derived.Laws.MakeOwn
import Derived.Laws.OwnMore
import Derived.Maps.AppendAt
import Derived.Deep.AppendLies
import Derived.Test.YtjjnhmcoodahgaaDoorNat
namespace Tt
open Go Go.RowKit
set_option linter.unusedSimpArgs false
set_option linter.unusedVariables false

/-! ### worlds that grow -/
/-- What was there when the call (from the world X) began is as it was. -/
class Step (X : outParam World) (w : World) : Prop where out : Below X.heap.size X w
/-- b is a with more blocks. -/
class Ext (a b : World) : Prop where out : Below a.heap.size a b
/-- The block g did not exist in a. -/
class Fresh (a : World) (g : Nat) : Prop where out : a.heap.size ≤ g

instance Ext.rfl' (w : World) : Ext w w := ⟨Below.refl _ _⟩
instance Ext.alloc' {a b : World} {o : Obj} [h : Ext a b] : Ext a (b.alloc o) := ⟨h.out.alloc h.out.size o⟩
instance Ext.drew' {a b : World} [h : Ext a b] : Ext a b.drew := ⟨h.out.drew⟩
instance Ext.drewN' {a b : World} {n : Nat} [h : Ext a b] : Ext a (b.drewN n) := ⟨⟨h.out.os, h.out.tape, h.out.output, h.out.size, h.out.block⟩⟩
instance Ext.step' {a X w : World} [s : Step X w] [h : Ext a X] : Ext a w := ⟨h.out.trans (s.out.mono h.out.size)⟩
instance Ext.set' {a b : World} {g o : Nat} {s : Option Nat} {v : Value} [h : Ext a b] [f : Fresh a g] : Ext a (b.setCell ⟨g, o, s⟩ v) := ⟨h.out.setCell f.out v⟩
instance Fresh.size' {a b : World} [h : Ext a b] : Fresh a b.heap.size := ⟨h.out.size⟩
instance Fresh.succ' {a : World} {n : Nat} [h : Fresh a n] : Fresh a (n + 1) := ⟨Nat.le_succ_of_le h.out⟩
theorem Ext.trans {a b c : World} (h : Ext a b) (k : Ext b c) : Ext a c := ⟨h.out.trans (k.out.mono h.out.size)⟩
theorem Step.of {a b : World} [h : Ext a b] : Step a b := ⟨h.out⟩
theorem Ext.cell {a b : World} (h : Ext a b) {p : Addr} {v : Value} (hc : a.cell? p = some v) : b.cell? p = some v := (h.out.cell (World.block_lt_of_cell? a p hc)).trans hc
theorem Ext.heap {a b : World} (h : Ext a b) {g : Nat} {o : Obj} (hc : a.heap[g]? = some o) : b.heap[g]? = some o := (h.out.block g (Array.getElem?_eq_some_iff.1 hc).1).trans hc
/-- Behind a call: cells and marks of what was there. -/
theorem Step.cells {X w : World} [h : Step X w] : (∀ b o, b < X.heap.size → w.cell? ⟨b, o, none⟩ = X.cell? ⟨b, o, none⟩) ∧ (∀ b o, b < X.heap.size → w.frozen? ⟨b, o, none⟩ = X.frozen? ⟨b, o, none⟩) :=
  ⟨fun b o hb => h.out.cell (p := ⟨b, o, none⟩) hb, fun b o hb => h.out.frozen (p := ⟨b, o, none⟩) hb⟩

/-- A callee by its contract. -/
theorem use {P : Program} {f : FuncId} {args : Array Value} {w : World} {R R' : Ending → World → Prop} (h : Calls P f args w R) (hr : ∀ e w', R e w' → R' e w') : Calls P f args w R' := h.mono hr

theorem beq_f {a b : Int} (h : a ≠ b) : (a == b) = false := beq_eq_false_iff_ne.2 h
theorem beq_t {a b : Int} (h : a = b) : (a == b) = true := beq_iff_eq.2 h
theorem bne_f {a b : Int} (h : a = b) : (a != b) = false := by simp [h]
theorem bne_t {a b : Int} (h : a ≠ b) : (a != b) = true := by simp [h]

/-- A variable of one's own, behind a call that began when it was the last block. -/
theorem box_keep {w w1 : World} {cs : Array Value} {e : TypeId} {m : Nat × Nat} [h : Step (w.alloc (.cells cs e m)) w1] (i : Nat) {v : Value} (hv : cs[i]? = some v) : w1.cell? ⟨w.heap.size, i, none⟩ = some v := by
  refine Ext.cell (a := w.alloc (.cells cs e m)) inferInstance ?_
  exact (World.cell?_alloc_mark w cs e m i).trans hv
theorem cell_keep {w w1 : World} {p : Addr} {v : Value} [h : Step w w1] (hv : w.cell? p = some v) : w1.cell? p = some v := Ext.cell inferInstance hv

/-! ### a slice of whole numbers, read -/
def Ints (w : World) (k : IntKind) (A : Option Addr) (xs : List Int) : Prop :=
  ∀ i, i < xs.length → ∃ ad, A = some ad ∧ w.cell? (ad.add i) = some (.int k (rd xs i))
theorem Ints.ext {a b : World} {k : IntKind} {A : Option Addr} {xs : List Int} [e : Ext a b] (h : Ints a k A xs) : Ints b k A xs := fun i hi =>
  let ⟨ad, e1, hc⟩ := h i hi; ⟨ad, e1, e.cell hc⟩
theorem Ints.up {a b : World} {k : IntKind} {A : Option Addr} {xs : List Int} (h : Ints a k A xs) (e : Ext a b := by infer_instance) : Ints b k A xs := h.ext
theorem Ints.nil (w : World) (k : IntKind) (A : Option Addr) : Ints w k A [] := fun i hi => by simp at hi
theorem Ints.take {w : World} {k : IntKind} {A : Option Addr} {xs : List Int} (h : Ints w k A xs) (n : Nat) : Ints w k A (xs.take n) := fun i hi => by
  have h1 : i < xs.length := by simp at hi; omega
  have h2 : i < n := by simp at hi; omega
  rw [rd_take _ _ _ h2]; exact h i h1
theorem Ints.lt {w : World} {k : IntKind} {ad : Addr} {xs : List Int} (h : Ints w k (some ad) xs) {i : Nat} (hi : i < xs.length) : w.cell? (ad.add i) = some (.int k (rd xs i)) := by
  obtain ⟨ad', e, hc⟩ := h i hi; cases e; exact hc
theorem Ints.addr {w : World} {k : IntKind} {A : Option Addr} {xs : List Int} (h : Ints w k A xs) (hp : 0 < xs.length) : ∃ ad, A = some ad ∧ Ints w k (some ad) xs := by
  obtain ⟨ad, e, _⟩ := h 0 hp; subst e; exact ⟨ad, rfl, h⟩
theorem add_add (ad : Addr) (i j : Nat) : (ad.add i).add j = ad.add (i + j) := by
  unfold Addr.add
  by_cases h1 : i = 0
  · subst h1; simp
  · by_cases h2 : j = 0
    · subst h2; simp [h1]
    · simp [h1, h2, Nat.add_assoc]
theorem add_nought (ad : Addr) : ad.add 0 = ad := by simp [Addr.add]
theorem add_plain (g j : Nat) : (⟨g, 0, none⟩ : Addr).add j = ⟨g, j, none⟩ := by unfold Addr.add; split <;> simp_all

/-! ### a block of the call's own -/
def Blk (w : World) (g : Nat) (T : TypeId) (cs : List Value) : Prop := w.heap[g]? = some (.cells cs.toArray T (0, 0))
theorem Blk.lt {w : World} {g : Nat} {T : TypeId} {cs : List Value} (h : Blk w g T cs) : g < w.heap.size := (Array.getElem?_eq_some_iff.1 h).1
theorem Blk.ext {a b : World} {g : Nat} {T : TypeId} {cs : List Value} [e : Ext a b] (h : Blk a g T cs) : Blk b g T cs := e.heap h
theorem Blk.cell {w : World} {g : Nat} {T : TypeId} {cs : List Value} (h : Blk w g T cs) (i : Nat) : w.cell? ⟨g, i, none⟩ = cs[i]? := by
  have := cell_of_row w g i cs.toArray T (0, 0) h; simpa using this
theorem Blk.frozen {w : World} {g : Nat} {T : TypeId} {cs : List Value} (h : Blk w g T cs) (i : Nat) : w.frozen? ⟨g, i, none⟩ = false := by unfold Blk at h; simp [World.frozen?, h]
theorem Blk.set {w : World} {g : Nat} {T : TypeId} {cs : List Value} (h : Blk w g T cs) (i : Nat) (v : Value) : Blk (w.setCell ⟨g, i, none⟩ v) g T (cs.set i v) := by
  unfold Blk at *
  simp [World.setCell, Array.getElem?_modify, h]
theorem Blk.far {w : World} {g : Nat} {T : TypeId} {cs : List Value} (h : Blk w g T cs) {p : Addr} (hp : g ≠ p.block) (v : Value) : Blk (w.setCell p v) g T cs :=
  (Below.heap_setCell w p v g hp).trans h
theorem Blk.new (w : World) (cs : List Value) (T : TypeId) : Blk (w.alloc (.cells cs.toArray T)) w.heap.size T cs := heap_alloc_new w _
theorem Blk.alloc {w : World} {g : Nat} {T : TypeId} {cs : List Value} (h : Blk w g T cs) (o : Obj) : Blk (w.alloc o) g T cs := (Below.heap_alloc w o g h.lt).trans h
theorem Blk.drew {w : World} {g : Nat} {T : TypeId} {cs : List Value} (h : Blk w g T cs) : Blk w.drew g T cs := h
theorem Blk.drewN {w : World} {g : Nat} {T : TypeId} {cs : List Value} (h : Blk w g T cs) (n : Nat) : Blk (w.drewN n) g T cs := h

def nums (k : IntKind) (xs : List Int) : List Value := xs.map fun x => .int k x
theorem nums_length (k : IntKind) (xs : List Int) : (nums k xs).length = xs.length := by simp [nums]
theorem nums_get (k : IntKind) (xs : List Int) (i : Nat) (h : i < xs.length) : (nums k xs)[i]? = some (.int k (rd xs i)) := by
  simp [nums, h, rd_lt _ _ h]
theorem nums_set (k : IntKind) (xs : List Int) (i : Nat) (v : Int) : (nums k xs).set i (.int k v) = nums k (xs.set i v) := by simp [nums, List.map_set]

/-- A block of whole numbers. -/
def BlkI (w : World) (g : Nat) (T : TypeId) (k : IntKind) (xs : List Int) : Prop := Blk w g T (nums k xs)
theorem BlkI.lt {w : World} {g : Nat} {T : TypeId} {k : IntKind} {xs : List Int} (h : BlkI w g T k xs) : g < w.heap.size := Blk.lt h
theorem BlkI.ext {a b : World} {g : Nat} {T : TypeId} {k : IntKind} {xs : List Int} [e : Ext a b] (h : BlkI a g T k xs) : BlkI b g T k xs := e.heap h
theorem BlkI.cell {w : World} {g : Nat} {T : TypeId} {k : IntKind} {xs : List Int} (h : BlkI w g T k xs) {i : Nat} (hi : i < xs.length) : w.cell? ⟨g, i, none⟩ = some (.int k (rd xs i)) :=
  (Blk.cell h i).trans (nums_get k xs i hi)
theorem BlkI.frozen {w : World} {g : Nat} {T : TypeId} {k : IntKind} {xs : List Int} (h : BlkI w g T k xs) (i : Nat) : w.frozen? ⟨g, i, none⟩ = false := Blk.frozen h i
theorem BlkI.set {w : World} {g : Nat} {T : TypeId} {k : IntKind} {xs : List Int} (h : BlkI w g T k xs) (i : Nat) (v : Int) : BlkI (w.setCell ⟨g, i, none⟩ (.int k v)) g T k (xs.set i v) := by
  have := Blk.set h i (.int k v); rwa [nums_set] at this
theorem BlkI.far {w : World} {g : Nat} {T : TypeId} {k : IntKind} {xs : List Int} (h : BlkI w g T k xs) {p : Addr} (hp : g ≠ p.block) (v : Value) : BlkI (w.setCell p v) g T k xs := Blk.far h hp v
theorem BlkI.alloc {w : World} {g : Nat} {T : TypeId} {k : IntKind} {xs : List Int} (h : BlkI w g T k xs) (o : Obj) : BlkI (w.alloc o) g T k xs := Blk.alloc h o
theorem BlkI.drew {w : World} {g : Nat} {T : TypeId} {k : IntKind} {xs : List Int} (h : BlkI w g T k xs) : BlkI w.drew g T k xs := h
theorem BlkI.drewN {w : World} {g : Nat} {T : TypeId} {k : IntKind} {xs : List Int} (h : BlkI w g T k xs) (n : Nat) : BlkI (w.drewN n) g T k xs := h
theorem BlkI.ints {w : World} {g : Nat} {T : TypeId} {k : IntKind} {xs : List Int} (h : BlkI w g T k xs) : Ints w k (some ⟨g, 0, none⟩) xs := fun i hi =>
  ⟨_, rfl, by rw [add_plain]; exact h.cell hi⟩
/-- A block that begins with whole numbers. -/
def BlkI' (w : World) (g : Nat) (T : TypeId) (k : IntKind) (xs : List Int) (sp : List Value) : Prop := Blk w g T (nums k xs ++ sp)
theorem BlkI'.cell {w : World} {g : Nat} {T : TypeId} {k : IntKind} {xs : List Int} {sp : List Value} (h : BlkI' w g T k xs sp) {i : Nat} (hi : i < xs.length) : w.cell? ⟨g, i, none⟩ = some (.int k (rd xs i)) := by
  rw [Blk.cell h i, List.getElem?_append_left (by simpa [nums] using hi), nums_get k xs i hi]
theorem BlkI'.frozen {w : World} {g : Nat} {T : TypeId} {k : IntKind} {xs : List Int} {sp : List Value} (h : BlkI' w g T k xs sp) (i : Nat) : w.frozen? ⟨g, i, none⟩ = false := Blk.frozen h i
theorem BlkI'.set {w : World} {g : Nat} {T : TypeId} {k : IntKind} {xs : List Int} {sp : List Value} (h : BlkI' w g T k xs sp) {i : Nat} (hi : i < xs.length) (v : Int) : BlkI' (w.setCell ⟨g, i, none⟩ (.int k v)) g T k (xs.set i v) sp := by
  have := Blk.set h i (.int k v)
  rwa [List.set_append_left _ _ (by simpa [nums] using hi), nums_set] at this
theorem BlkI'.ints {w : World} {g : Nat} {T : TypeId} {k : IntKind} {xs : List Int} {sp : List Value} (h : BlkI' w g T k xs sp) : Ints w k (some ⟨g, 0, none⟩) xs := fun i hi =>
  ⟨_, rfl, by rw [add_plain]; exact h.cell hi⟩
theorem BlkI'.drewN {w : World} {g : Nat} {T : TypeId} {k : IntKind} {xs : List Int} {sp : List Value} (h : BlkI' w g T k xs sp) (n : Nat) : BlkI' (w.drewN n) g T k xs sp := h
theorem BlkI'.ext {a b : World} {g : Nat} {T : TypeId} {k : IntKind} {xs : List Int} {sp : List Value} [e : Ext a b] (h : BlkI' a g T k xs sp) : BlkI' b g T k xs sp := e.heap h
theorem made_nums (k : IntKind) (n : Nat) : madeCells #[.int k 0] n = (nums k (List.replicate n 0)).toArray := by
  apply Array.ext'
  rw [toList_madeCells_one]; simp [nums]
theorem BlkI.made (w : World) (k : IntKind) (n : Nat) (T : TypeId) : BlkI (w.alloc (.cells (madeCells #[.int k 0] n) T)) w.heap.size T k (List.replicate n 0) := by
  rw [made_nums]; exact Blk.new w _ T

/-- 'make([]T, n)' of whole numbers, laid ahead of the walk: x is the size as the walk spells it. -/
theorem make_ints {P : Program} (t e : TypeId) (k : IntKind) (bytes : Nat) (ht : P.underlying t = some (.slice e)) (hinfo : (P.info? e).map (fun i => (i.zero, i.size, i.bytes)) = some (some (.int k 0), 1, bytes)) (hb0 : 0 < bytes)
    (x : Int) (m : Nat) (hx : x = m) (hn : m * bytes ≤ 281474976710656) :
    ∀ W : World, (Instr.makeSlice t (.int .i64 x) (.int .i64 x)).run P W = .ok (.slice (some ⟨W.heap.size, 0, none⟩) m m) (W.alloc (.cells (madeCells #[.int k 0] m) e)) := by
  intro W
  subst hx
  have hm : m ≤ 281474976710656 := Nat.le_trans (Nat.le_mul_of_pos_right _ hb0) hn
  exact run_make_row' t e (.int k 0) bytes ht hinfo rfl .i64 .i64 m (by rw [Nat.mul_comm]; exact hn) (by omega) W

/-! ### max and min of two -/
def mx (a b : Int) : Int := if a < b then b else a
def mn (a b : Int) : Int := if b < a then b else a
theorem max2_int (k k' : IntKind) (x y : Int) : Builtin.max2 (.int k x) (.int k' y) = pure (.int k (mx x y)) := by simp only [Builtin.max2, gt_iff_lt, mx]
theorem min2_int (k k' : IntKind) (x y : Int) : Builtin.min2 (.int k x) (.int k' y) = pure (.int k (mn x y)) := by simp only [Builtin.min2, mn]
theorem max_two (ats : Array TypeId) (ty : TypeId) (a b : Value) : Builtin.max_ ats ty #[a, b] = (Builtin.max2 a b >>= fun s => pure s) := by simp only [Builtin.max_, List.foldlM_cons, List.foldlM_nil]
theorem min_two (ats : Array TypeId) (ty : TypeId) (a b : Value) : Builtin.min_ ats ty #[a, b] = (Builtin.min2 a b >>= fun s => pure s) := by simp only [Builtin.min_, List.foldlM_cons, List.foldlM_nil]
theorem mx_le (a b : Int) : a ≤ mx a b ∧ b ≤ mx a b ∧ (mx a b = a ∨ mx a b = b) := by unfold mx; split <;> omega
theorem mn_le (a b : Int) : mn a b ≤ a ∧ mn a b ≤ b ∧ (mn a b = a ∨ mn a b = b) := by unfold mn; split <;> omega

/-! ### a slice of the call's own that grows -/
theorem own_lt {w : World} {base : Nat} {e : TypeId} {size n : Nat} {v : Value} {xs : List Value} (h : w.ownsRow base e size v n xs) (k : Nat) (hk : v.ownBlock = some k) : base ≤ k ∧ k < w.heap.size := h.lt k hk
theorem own_ext {a b : World} {base : Nat} {e : TypeId} {size n : Nat} {v : Value} {xs : List Value} [x : Ext a b] (h : a.ownsRow base e size v n xs) : b.ownsRow base e size v n xs := by
  refine h.kept (row := none) ⟨x.out.os, x.out.tape, x.out.output, x.out.size, fun k hk _ => x.out.block k hk⟩ ?_
  cases v.ownBlock <;> simp
theorem own_low {w : World} {base base' : Nat} {e : TypeId} {size n : Nat} {v : Value} {xs : List Value} (h : w.ownsRow base e size v n xs) (hb : base' ≤ base) : w.ownsRow base' e size v n xs := by
  obtain ⟨h1, h2⟩ := h
  refine ⟨h1, ?_⟩
  rcases h2 with h2 | ⟨g, cap, cur, a, b, c⟩
  · exact .inl h2
  · exact .inr ⟨g, cap, cur, a, Nat.le_trans hb b, c⟩
theorem own_slice {w : World} {base n : Nat} {e : TypeId} {size : Nat} {v : Value} {xs : List Value} (h : w.ownsRow base e size v n xs) : ∃ A c, v = .slice A n c ∧ n ≤ c ∧ c ≤ 9223372036854775807 := by
  rcases h.2 with ⟨rfl, rfl⟩ | ⟨g, cap, cur, rfl, _, _, h1, h2, _⟩
  · exact ⟨none, 0, rfl, Nat.le_refl _, by omega⟩
  · exact ⟨_, cap, rfl, h1, by simpa [maxLen] using h2⟩
/-- What is owned, read: cell j of element i. -/
theorem own_cells {w : World} {base n : Nat} {e : TypeId} {size : Nat} {A : Option Addr} {c : Nat} {xs : List Value} (h : w.ownsRow base e size (.slice A n c) n xs) (j : Nat) (hj : j < n * size) :
    ∃ ad, A = some ad ∧ w.cell? (ad.add j) = xs[j]? := by
  rcases h.2 with ⟨e1, rfl⟩ | ⟨g, cap, cur, e1, _⟩
  · simp at hj
  · injection e1 with e1 e2 e3
    subst e1
    refine ⟨_, rfl, ?_⟩
    have hl : j < xs.length := by rw [h.1]; exact hj
    rw [List.getElem?_eq_getElem hl]
    exact h.cells (g := g) rfl j _ (List.getElem?_eq_getElem hl)
theorem own_ints {w : World} {base : Nat} {e : TypeId} {k : IntKind} {A : Option Addr} {c n : Nat} {xs : List Int} (h : w.ownsRow base e 1 (.slice A n c) n (nums k xs)) : xs.length = n ∧ Ints w k A xs := by
  have hl : xs.length = n := by have := h.1; simpa [nums] using this
  refine ⟨hl, fun i hi => ?_⟩
  obtain ⟨ad, e1, hc⟩ := own_cells h i (by omega)
  exact ⟨ad, e1, hc.trans (nums_get k xs i hi)⟩
theorem own_nil (w : World) (base : Nat) (e : TypeId) (size : Nat) : w.ownsRow base e size (.slice none 0 0) 0 [] := World.ownsRow_nil _ _ _ _

section
variable {P : Program} {ops : Array Oper} {rest : List Oper} {o : Oper} {a : Act} {Q : Exit → Act → World → Prop}
/-- 'append(v, x)': behind 'at_builtin'; the world is that behind the variadic's own block. cs: the cells of what v holds, news: those of x. -/
theorem app_one {w0 W : World} (base : Nat) (s x : Operand) (t e : TypeId) (z : Value) (sz bytes : Nat) (hgd : o.guard = none)
    (ho : o.op = .call { callee := .builtin .append, args := #[s, x], argTypes := #[t, t] })
    (ht : P.underlying t = some (.slice e)) (hinfo : (P.info? e).map (fun i => (i.zero, i.size, i.bytes)) = some (some z, sz, bytes)) (hz : z.cells.size = sz) (hb0 : 0 < bytes) (hsz : 0 < sz)
    (v : Value) (n : Nat) (cs news : List Value) (hs : a.eval s = v) (hx : a.eval x = .slice (some ⟨W.heap.size, 0, none⟩) 1 1) (hn : news.length = sz) (h1 : ∀ u ∈ news, u.oneCell' = true)
    (HO : W.ownsRow base e sz v n cs) (HE : Ext w0 W) (hbase : base ≤ W.heap.size) (hb : w0.heap.size ≤ base) (hl : (n + 1) * bytes ≤ 140737488355328)
    (h : ∀ v1 w1, w1.ownsRow base e sz v1 (n + 1) (cs ++ news) → Ext w0 w1 → W.grownBy w1 v.ownBlock → (v1.ownBlock = v.ownBlock ∨ ∃ b, v1.ownBlock = some b ∧ W.heap.size ≤ b) → wpList P ops Q rest (a.put o.dst v1) w1) :
    wpList P ops Q (o :: rest) a (W.alloc (.cells news.toArray e)) := by
  obtain ⟨i0, hi, hzz⟩ := Option.map_eq_some_iff.1 hinfo
  simp only [Prod.mk.injEq] at hzz
  obtain ⟨hz0, hz1, hz2⟩ := hzz
  have hlen : n + 1 ≤ 140737488355328 := Nat.le_trans (Nat.le_mul_of_pos_right _ hb0) hl
  refine wpList_append_own_at (W.alloc (.cells news.toArray e)) hgd s x t ho base e i0 z sz bytes ht hi hz0 hz1 hz2 hz hsz v n cs hs (HO.alloc _) ⟨W.heap.size, 0, none⟩ 1 1 news hx (by omega)
    (World.news_of_block (cs := news.toArray) (t := e) (fr := (0, 0)) (heap_alloc_new W _)) h1 (by simp only [maxLen]; omega) hl (by simp; omega) ?_
  intro v1 w1 hown hg _ hat
  refine h v1 w1 hown ⟨(HE.out.alloc HE.out.size _).grown hg (Nat.le_trans HE.out.size (by simp)) (fun k hk => Nat.le_trans hb (own_lt HO k hk).1)⟩ (World.grownBy.trans (World.grownBy_alloc W _ _) hg) ?_
  rcases hat with hat | hat
  · exact .inl hat
  · exact .inr ⟨_, hat, by simp⟩
end

section
variable {P : Program} {ops : Array Oper} {rest : List Oper} {o : Oper} {a : Act} {Q : Exit → Act → World → Prop}
/-- The operation writes this slot (a cheap look ahead of a dear step). -/
theorem gate {N : Tmp} {W : World} (_h : o.dst = some N) (h : wpList P ops Q (o :: rest) a W) : wpList P ops Q (o :: rest) a W := h
theorem append_types (w : World) {t t2 ty e : TypeId} (ht : P.underlying t = some (.slice e)) (ht2 : P.underlying t2 = some (.slice e)) (v x : Value) :
    (Builtin.append_ #[t, t2] ty #[v, x]).run P w = (Builtin.append_ #[t, t] ty #[v, x]).run P w := by
  cases v <;> simp [Builtin.append_, run_underlying ht, run_underlying ht2, Go.sizeOf, typeInfo]
/-- 'append(v, ys...)' of whole numbers, ys read. -/
theorem app_ints {w0 W : World} (base : Nat) (s x : Operand) (t t2 e : TypeId) (k : IntKind) (bytes : Nat) (hgd : o.guard = none)
    (ho : o.op = .call { callee := .builtin .append, args := #[s, x], argTypes := #[t, t2] })
    (ht : P.underlying t = some (.slice e)) (ht2 : P.underlying t2 = some (.slice e)) (hinfo : (P.info? e).map (fun i => (i.zero, i.size, i.bytes)) = some (some (.int k 0), 1, bytes)) (hb0 : 0 < bytes)
    (v : Value) (xs ys : List Int) (ad : Addr) (m c : Nat) (hs : a.eval s = v) (hx : a.eval x = .slice (some ad) m c) (hm : m = ys.length) (hy : Ints W k (some ad) ys)
    (HO : W.ownsRow base e 1 v xs.length (nums k xs)) (HE : Ext w0 W) (hbase : base ≤ W.heap.size) (hb : w0.heap.size ≤ base) (hl : (xs.length + ys.length) * bytes ≤ 140737488355328)
    (h : ∀ v1 w1, w1.ownsRow base e 1 v1 (xs ++ ys).length (nums k (xs ++ ys)) → Ext w0 w1 → W.grownBy w1 v.ownBlock → (v1.ownBlock = v.ownBlock ∨ ∃ b, v1.ownBlock = some b ∧ W.heap.size ≤ b) → wpList P ops Q rest (a.put o.dst v1) w1) :
    wpList P ops Q (o :: rest) a W := by
  subst hm
  obtain ⟨i0, hi, hzz⟩ := Option.map_eq_some_iff.1 hinfo
  simp only [Prod.mk.injEq] at hzz
  obtain ⟨hz0, hz1, hz2⟩ := hzz
  have hlen : xs.length + ys.length ≤ 140737488355328 := Nat.le_trans (Nat.le_mul_of_pos_right _ hb0) hl
  refine wpList_plain hgd fun K hK => ?_
  obtain ⟨v1, w1, hr, hown, hg, _, hat⟩ := run_append_own_at (P := P) W base t o.type e i0 (.int k 0) 1 bytes ht hi hz0 hz1 hz2 rfl (by omega) v xs.length (nums k xs) HO ad ys.length c (nums k ys) (by simp [nums])
    (fun j u hu => by
      have hj : j < ys.length := by
        have := (List.getElem?_eq_some_iff.1 hu).1; simpa [nums] using this
      rw [hy.lt hj, ← nums_get k ys j hj, hu])
    (fun u hu => by
      simp only [nums, List.mem_map] at hu
      obtain ⟨y, _, rfl⟩ := hu
      rfl) (by simp only [maxLen]; omega) hl hbase
  unfold Oper.wp execOp
  simp only [ho, resolve, invoke, builtin, Sem.run_bind, Sem.run_pure, Result.andThen_ok, List.map_toArray, List.map_cons, List.map_nil, hs, hx, append_types W ht ht2, hr]
  refine hK _ _ (h v1 w1 (by simpa [nums] using hown) ⟨HE.out.grown hg HE.out.size (fun k hk => Nat.le_trans hb (own_lt HO k hk).1)⟩ hg ?_)
  rcases hat with hat | hat
  · exact .inl hat
  · exact .inr ⟨_, hat, Nat.le_refl _⟩
end
/-- 'T{}': an empty literal. -/
theorem own_empty (w : World) (base : Nat) (e : TypeId) (size : Nat) (hb : base ≤ w.heap.size) : (w.alloc (.cells #[] e)).ownsRow base e size (.slice (some ⟨w.heap.size, 0, none⟩) 0 0) 0 [] := by
  have := World.ownsRow_lit (base := base) (e := e) (size := size) w #[] 0 hb (by simp) (by simp)
  simpa using this
theorem Ints.drop {w : World} {k : IntKind} {ad : Addr} {xs : List Int} (h : Ints w k (some ad) xs) (q : Nat) : Ints w k (some (ad.add q)) (xs.drop q) := fun i hi => by
  refine ⟨_, rfl, ?_⟩
  rw [add_add, rd_drop]
  exact h.lt (by simp at hi; omega)
/-- An owned row of whole numbers that is not nil: its block. -/
theorem own_blk {w : World} {base : Nat} {e : TypeId} {k : IntKind} {v : Value} {xs : List Int} (h : w.ownsRow base e 1 v xs.length (nums k xs)) (hp : 0 < xs.length) :
    ∃ g c, v = .slice (some ⟨g, 0, none⟩) xs.length c ∧ base ≤ g ∧ xs.length ≤ c ∧ c ≤ 9223372036854775807 ∧ ∃ sp, BlkI' w g e k xs sp := by
  rcases h.2 with ⟨_, h0⟩ | ⟨g, cap, cur, rfl, hb, hg, h1, h2, h3, h4⟩
  · omega
  · refine ⟨g, cap, rfl, hb, h1, by simpa [maxLen] using h2, cur.toList.drop xs.length, ?_⟩
    show w.heap[g]? = _
    rw [hg]
    congr 2
    have : cur.toList = nums k xs ++ cur.toList.drop xs.length := by
      rw [← h4, Nat.mul_one, List.take_append_drop]
    rw [← this]

/-! ### numbers of any size, as tontinebase keeps them: limbs of 30 bits -/
def IsNat (w : World) (v : Value) (n : Nat) : Prop :=
  ∃ A c l, v = .slice A l.length c ∧ l.length ≤ c ∧ c ≤ 9223372036854775807 ∧ Ints w .i64 A l ∧ Rng 1073741824 l ∧ Top l ∧ val 1073741824 l = n
theorem IsNat.ext {a b : World} {v : Value} {n : Nat} [e : Ext a b] (h : IsNat a v n) : IsNat b v n := by
  obtain ⟨A, c, l, e1, e2, e3, e4, e5⟩ := h; exact ⟨A, c, l, e1, e2, e3, e4.ext, e5⟩
theorem IsNat.up {a b : World} {v : Value} {n : Nat} (h : IsNat a v n) (e : Ext a b := by infer_instance) : IsNat b v n := h.ext
theorem IsNat.len {l : List Int} {n : Nat} (h : Rng 1073741824 l) (t : Top l) (e : val 1073741824 l = n) : l.length ≤ bl n := length_le_bl (e := 30) (by omega) h t e
theorem IsNat.zero (w : World) : IsNat w (.slice none 0 0) 0 := ⟨none, 0, [], rfl, Nat.le_refl _, by omega, Ints.nil _ _ _, Rng.nil _, Top.nil, rfl⟩
theorem IsNat.one (w : World) (T : TypeId) : IsNat (w.alloc (.cells #[.int .i64 1] T)) (.slice (some ⟨w.heap.size, 0, none⟩) 1 1) 1 :=
  ⟨some ⟨w.heap.size, 0, none⟩, 1, [1], rfl, Nat.le_refl _, by omega, BlkI.ints (T := T) (Blk.new w (nums .i64 [1]) T), Rng.cons (by omega) (by omega) (Rng.nil _), fun _ => by simp, by simp⟩
theorem IsNat.norm {w : World} {g : Nat} {T : TypeId} {l : List Int} {n m : Nat} (HB : BlkI w g T .i64 l) (hn : n ≤ l.length) (hm : l.length ≤ 9223372036854775807) (r : Rng 1073741824 l) (hz : Zs l n) (ht : n = 0 ∨ rd l (n - 1) ≠ 0)
    (hv : val 1073741824 l = m) : IsNat w (.slice (some ⟨g, 0, none⟩) n l.length) m := by
  refine ⟨some ⟨g, 0, none⟩, l.length, l.take n, ?_, ?_, hm, HB.ints.take n, r.take n, top_take hn ht, (val_take_zs _ hz).trans hv⟩ <;> rw [List.length_take, Nat.min_eq_left hn]
  exact hn
theorem IsNat.norm' {w : World} {g : Nat} {T : TypeId} {l : List Int} {sp : List Value} {n m c : Nat} (HB : BlkI' w g T .i64 l sp) (hn : n ≤ l.length) (hc : l.length ≤ c) (hm : c ≤ 9223372036854775807) (r : Rng 1073741824 l) (hz : Zs l n) (ht : n = 0 ∨ rd l (n - 1) ≠ 0)
    (hv : val 1073741824 l = m) : IsNat w (.slice (some ⟨g, 0, none⟩) n c) m := by
  refine ⟨some ⟨g, 0, none⟩, c, l.take n, ?_, ?_, hm, HB.ints.take n, r.take n, top_take hn ht, (val_take_zs _ hz).trans hv⟩ <;> rw [List.length_take, Nat.min_eq_left hn]
  omega
def RetNat (w : World) (n : Nat) (e : Ending) (w' : World) : Prop := ∃ v, e = .returned v ∧ IsNat w' v n ∧ Step w w'
def RetInt (w : World) (n : Int) (e : Ending) (w' : World) : Prop := e = .returned (.int .i64 n) ∧ Step w w'
def RetBool (w : World) (b : Bool) (e : Ending) (w' : World) : Prop := e = .returned (.bool b) ∧ Step w w'

end Tt
