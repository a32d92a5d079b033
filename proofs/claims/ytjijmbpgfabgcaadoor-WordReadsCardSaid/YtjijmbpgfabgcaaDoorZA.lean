/-
  Words for memory that all walks of this seat use: a block that is known whole, worlds in which one block alone has turned, arguments that are slices of structs. Plain lemmas; no condition.
  Slices that read as lists; append of one such to a row of the call's own; bytes as a text. Plain lemmas; no condition.
  A slice that came in, opened to its cells, whatever its elements are; arrays of integers. Plain lemmas; no condition.
  Steps of a region that draws its order: append at a literal row, append at a row of the call's own, each in whatever world the order comes to. Plain lemmas; no condition.
  A slice of the call's own that need not begin at its row's head: read, resliced, appended to. Plain lemmas; no condition.
  Bytes with their block's kind: a slice of bytes lies in a block of bytes, nothing of it frozen, its capacity within the block; it stays where blocks of other kinds turn. Plain lemmas; no condition.
  Steps on a row of elements of two cells that lies whole at hand: copy into it, clear its end, append to its beginning. Plain lemmas; no condition.
-/
import Derived.Test.YtjijmbpgfabgcaaDoorRows
import Derived.WalkKit
import Derived.ProofKit
import Derived.Deep.QuietTactic
import Derived.BigQuiet
import Derived.WalkLawsBesides
import Derived.WalkSpells
import Derived.Lib.Hide
import Derived.Deep.RegionHeld3
import Derived.Deep.LoopGhost
import Derived.Deep.DeepCutAuto
import Derived.Deep.Slices
import Derived.Deep.Fields
import Derived.Maps.AppendAt
import Derived.Deep.AppendLies
import Derived.Deep.Draws
import Derived.Outline
import Derived.Below
import Derived.OpenShut
import Derived.Deep.RegionLaw
import Derived.Laws.BytesString
import Derived.StillTailTactics
import Derived.Deep.RegionLawGrows
import Derived.Laws.CopyRow
import Derived.Lib.Overlaps
import Derived.Lib.AppendZerosOnto
namespace Go.Proofs.YtjijmbpgfabgcaaDoor
open Go.RowKit
set_option linter.unusedVariables false
set_option linter.unusedSimpArgs false

/-- A block known whole, nothing of it frozen. -/
def Blk (w : World) (g : Nat) (t : TypeId) (cs : Array Value) : Prop := w.heap[g]? = some (.cells cs t (0, 0))
section
variable {w w' : World} {g : Nat} {t : TypeId} {cs : Array Value}
theorem Blk.lt (h : Blk w g t cs) : g < w.heap.size := (Array.getElem?_eq_some_iff.1 h).1
theorem Blk.cell (h : Blk w g t cs) (i : Nat) : w.cell? ⟨g, i, none⟩ = cs[i]? := cell_of_row w g i cs t (0, 0) h
theorem Blk.frozen (h : Blk w g t cs) (i : Nat) : w.frozen? ⟨g, i, none⟩ = false := by
  unfold Blk at h
  simp [World.frozen?, h]
theorem Blk.new (w : World) (t : TypeId) (cs : Array Value) : Blk (w.alloc (.cells cs t)) w.heap.size t cs := heap_alloc_new w _
theorem Blk.drewN (h : Blk w g t cs) (n : Nat) : Blk (w.drewN n) g t cs := h
theorem Blk.drew (h : Blk w g t cs) : Blk w.drew g t cs := h
theorem Blk.alloc (h : Blk w g t cs) (o : Obj) : Blk (w.alloc o) g t cs := (Below.heap_alloc w o g h.lt).trans h
theorem Blk.set_ (h : Blk w g t cs) (i : Nat) (u : Value) : Blk (w.setCell ⟨g, i, none⟩ u) g t (cs.setIfInBounds i u) := by
  unfold Blk at h ⊢
  simp [World.setCell, Array.getElem?_modify, h]
theorem Blk.far (h : Blk w g t cs) {p : Addr} (hp : g ≠ p.block) (u : Value) : Blk (w.setCell p u) g t cs := (Below.heap_setCell w p u g hp).trans h
theorem Blk.below {B : Nat} (h : Blk w g t cs) (hb : Below B w w') (hg : g < B) : Blk w' g t cs := (hb.block g hg).trans h
theorem Blk.grown {row : Option Nat} (h : Blk w g t cs) (hb : w.grownBy w' row) (hg : some g ≠ row) : Blk w' g t cs := (hb.block g h.lt hg).trans h
theorem Blk.same (h : Blk w g t cs) (hb : Below w.heap.size w w') : Blk w' g t cs := (hb.block g h.lt).trans h
theorem Blk.ne_ {g' : Nat} {t' : TypeId} {cs' : Array Value} (h : Blk w g t cs) (h' : Blk w g' t' cs') (hne : t ≠ t') : g ≠ g' := by
  rintro rfl
  unfold Blk at h h'
  rw [h] at h'
  injection h' with h'
  injection h' with _ ht
  exact hne ht
end

theorem grown_refl (w : World) (r : Option Nat) : w.grownBy w r := ⟨rfl, rfl, rfl, Nat.le_refl _, fun _ _ _ => rfl⟩
section
variable {a w w' : World} {r : Option Nat} {g : Nat}
theorem grown_drewN (h : a.grownBy w r) (n : Nat) : a.grownBy (w.drewN n) r := ⟨h.os, h.tape, h.output, h.size, h.block⟩
theorem grown_drew (h : a.grownBy w r) : a.grownBy w.drew r := ⟨h.os, h.tape, h.output, h.size, h.block⟩
theorem grown_set (h : a.grownBy w (some g)) (i : Nat) (u : Value) : a.grownBy (w.setCell ⟨g, i, none⟩ u) (some g) :=
  ⟨h.os, h.tape, h.output, by simpa [World.setCell] using h.size, fun k hk hne => (Below.heap_setCell w _ u k (by rintro rfl; exact hne rfl)).trans (h.block k hk hne)⟩
theorem grown_set_new (h : a.grownBy w r) {p : Addr} (hp : a.heap.size ≤ p.block) (u : Value) : a.grownBy (w.setCell p u) r :=
  ⟨h.os, h.tape, h.output, by simpa [World.setCell] using h.size, fun k hk hne => (Below.heap_setCell w _ u k (by omega)).trans (h.block k hk hne)⟩
theorem grown_alloc (h : a.grownBy w r) (o : Obj) : a.grownBy (w.alloc o) r :=
  ⟨h.os, h.tape, h.output, Nat.le_trans h.size (by simp), fun i hi hne => (Below.heap_alloc w o i (Nat.lt_of_lt_of_le hi h.size)).trans (h.block i hi hne)⟩
theorem grown_trans (h : a.grownBy w r) (k : w.grownBy w' r) : a.grownBy w' r :=
  ⟨k.os.trans h.os, k.tape.trans h.tape, k.output.trans h.output, Nat.le_trans h.size k.size, fun i hi hne => (k.block i (Nat.lt_of_lt_of_le hi h.size) hne).trans (h.block i hi hne)⟩
theorem grown_below (h : Below a.heap.size a w) (r : Option Nat) : a.grownBy w r := ⟨h.os, h.tape, h.output, h.size, fun i hi _ => h.block i hi⟩
theorem below_drewN {B : Nat} (h : Below B a w) (n : Nat) : Below B a (w.drewN n) := ⟨h.os, h.tape, h.output, h.size, h.block⟩
theorem below_grown (h : Below a.heap.size a w) (k : w.grownBy w' (some g)) (hg : a.heap.size ≤ g) : Below a.heap.size a w' :=
  h.grown k h.size (fun i hi => by injection hi with hi; omega)
theorem below_of_grown {B : Nat} (k : a.grownBy w r) (hB : B ≤ a.heap.size) (hr : ∀ g, r = some g → B ≤ g) : Below B a w :=
  (Below.refl B a).grown k hB hr
end

/-- What is known of memory behind a call that keeps what lies below. -/
theorem kept_cells {W w1 : World} {B : Nat} (hb : Below B W w1) : (∀ b o, b < B → w1.cell? ⟨b, o, none⟩ = W.cell? ⟨b, o, none⟩) ∧ (∀ b o, b < B → w1.frozen? ⟨b, o, none⟩ = W.frozen? ⟨b, o, none⟩) :=
  ⟨fun b o h => hb.cell (p := ⟨b, o, none⟩) h, fun b o h => hb.frozen (p := ⟨b, o, none⟩) h⟩

/-- Quiet calls: behind draws, too. -/
theorem quiet_left {P : Program} {f : FuncId} {args : Array Value} {w : World} {v : Value}
    (h : Calls P f args w fun e w' => e = .returned v ∧ w = w') : Calls P f args w fun e w' => e = .returned v ∧ w' = w :=
  h.mono fun _ _ h => ⟨h.1, h.2.symm⟩

/-- A quiet call in a region, whatever was drawn ahead of it. -/
theorem quiet_add {P : Program} {f : FuncId} {args : Array Value} {w : World} {a n : Nat} {v : Value}
    (h : Calls P f args (w.drewN (a + n)) fun e w' => e = .returned v ∧ w.drewN (a + n) = w') :
    Calls P f args (w.drewN (a + n)) fun e w'' => e = .returned v ∧ ∃ m, w'' = w.drewN (a + m) :=
  h.mono fun _ _ ⟨he, hm⟩ => ⟨he, n, hm.symm⟩
theorem quiet_one {P : Program} {f : FuncId} {args : Array Value} {w : World} {n : Nat} {v : Value}
    (h : Calls P f args (w.drewN n) fun e w' => e = .returned v ∧ w.drewN n = w') : Calls P f args (w.drewN n) fun e w'' => e = .returned v ∧ ∃ m, w'' = w.drewN m :=
  h.mono fun _ _ ⟨he, hm⟩ => ⟨he, n, hm.symm⟩
/-- The same where the callee draws, too. -/
theorem quiet_addN {P : Program} {f : FuncId} {args : Array Value} {w : World} {a n : Nat} {v : Value}
    (h : Calls P f args (w.drewN (a + n)) fun e w' => e = .returned v ∧ ∃ k, (w.drewN (a + n)).drewN k = w') :
    Calls P f args (w.drewN (a + n)) fun e w'' => e = .returned v ∧ ∃ m, w'' = w.drewN (a + m) :=
  h.mono fun _ _ ⟨he, k, hm⟩ => ⟨he, n + k, by rw [← hm, World.drewN_drewN, Nat.add_assoc]⟩
theorem quiet_oneN {P : Program} {f : FuncId} {args : Array Value} {w : World} {n : Nat} {v : Value}
    (h : Calls P f args (w.drewN n) fun e w' => e = .returned v ∧ ∃ k, (w.drewN n).drewN k = w') : Calls P f args (w.drewN n) fun e w'' => e = .returned v ∧ ∃ m, w'' = w.drewN m :=
  h.mono fun _ _ ⟨he, k, hm⟩ => ⟨he, n + k, by rw [← hm, World.drewN_drewN]⟩

/-- What the walk is told of a slice that came in: where there is an element its cells are known: the k-th element's j-th cell is 'F k j'. -/
def SlAt (w : World) (sz : Nat) (A : Option Addr) (n : Nat) (F : Nat → Nat → Value) : Prop :=
  ∀ k, k < n → ∃ b off, A = some ⟨b, off, none⟩ ∧ b < w.heap.size ∧ ∀ j, j < sz → w.cell? ⟨b, off + (k * sz + j), none⟩ = some (F k j)

theorem SlAt.below {w w' : World} {sz : Nat} {A : Option Addr} {n : Nat} {F : Nat → Nat → Value} (h : SlAt w sz A n F) (hb : Below w.heap.size w w') : SlAt w' sz A n F := fun k hk => by
  obtain ⟨b, off, e, hlt, hc⟩ := h k hk
  exact ⟨b, off, e, Nat.lt_of_lt_of_le hlt hb.size, fun j hj => (hb.cell (p := ⟨b, _, none⟩) hlt).trans (hc j hj)⟩

/-! Rows of the call's own. -/
section
variable {w w' : World} {base : Nat} {e : TypeId} {size : Nat} {v : Value} {n : Nat} {xs : List Value} {g : Nat} {t : TypeId} {cs : Array Value}
theorem own_drewN (h : w.ownsRow base e size v n xs) (k : Nat) : (w.drewN k).ownsRow base e size v n xs := h
theorem own_blk_ne (h : w.ownsRow base e size v n xs) (hg : Blk w g t cs) (hne : e ≠ t) : v.ownBlock ≠ some g := by
  rcases h.2 with ⟨rfl, _⟩ | ⟨g', cap, cur, rfl, _, hh, _⟩
  · simp [Value.ownBlock]
  · intro he
    have : g' = g := by simpa [Value.ownBlock] using he
    subst this
    exact Blk.ne_ (t := e) hh hg hne rfl
theorem own_far (h : w.ownsRow base e size v n xs) {p : Addr} (hp : v.ownBlock ≠ some p.block) (u : Value) : (w.setCell p u).ownsRow base e size v n xs :=
  h.kept (row := some p.block) ⟨rfl, rfl, rfl, by simp [World.setCell], fun k hk hne => Below.heap_setCell w _ u k (by rintro rfl; exact hne rfl)⟩ (.inr hp)
theorem own_grown {r : Option Nat} (h : w.ownsRow base e size v n xs) (hg : w.grownBy w' r) (hne : r = none ∨ v.ownBlock ≠ r) : w'.ownsRow base e size v n xs :=
  h.kept hg (by
    rcases hne with rfl | hne
    · rcases hv : v.ownBlock with _ | b
      · exact .inl rfl
      · exact .inr (by simp)
    · exact .inr hne)
theorem own_base {base' : Nat} (h : w.ownsRow base e size v n xs) (hb : base' ≤ base) : w.ownsRow base' e size v n xs := by
  refine ⟨h.1, ?_⟩
  rcases h.2 with h2 | ⟨g, cap, cur, rfl, hg, r⟩
  · exact .inl h2
  · exact .inr ⟨g, cap, cur, rfl, by omega, r⟩
theorem own_same (h : w.ownsRow base e size v n xs) (hb : Below w.heap.size w w') : w'.ownsRow base e size v n xs :=
  own_grown h (grown_below hb none) (.inl rfl)
/-- What a value that owns a row looks like to a reader. -/
theorem sl_of_own (h : w.ownsRow base e size v n xs) : ∃ A cap, v = .slice A n cap ∧ n ≤ cap ∧ cap ≤ maxLen ∧ SlAt w size A n (fun k j => xs.getD (k * size + j) undef) := by
  rcases h.2 with ⟨rfl, rfl⟩ | ⟨g, cap, cur, rfl, hb, hg, hn, hc, hs, hx⟩
  · exact ⟨none, 0, rfl, Nat.le_refl _, Nat.zero_le _, fun k hk => absurd hk (by omega)⟩
  · refine ⟨_, cap, rfl, hn, hc, fun k hk => ⟨g, 0, rfl, (Array.getElem?_eq_some_iff.1 hg).1, fun j hj => ?_⟩⟩
    have hkj : k * size + j < n * size := by
      have : (k + 1) * size ≤ n * size := Nat.mul_le_mul_right _ (by omega)
      rw [Nat.succ_mul] at this
      omega
    rw [Nat.zero_add, World.ownsRow.cellAt h _ hkj]
    have hl : k * size + j < xs.length := by have := h.1; omega
    rw [List.getElem?_eq_getElem hl]
    simp [hl]
end

open Go.ChangeShapes Go.WideShapes Go.Deep in
/-- A slice of structs that came in, each field of one cell: its cells, each field's own reading. -/
theorem open_structs {H : Type} {enc : TypeId × Value → H} {P : Program} {w : World} {base : Nat} {spare : Nat → Bool} {held : Bool} {t e : TypeId} {fs : Array Field} {fuel : Nat} {A : Option Addr} {n c : Nat} {x : DataW H × List MemPlace}
    (ht : P.underlying t = some (.slice e)) (he : P.underlying e = some (.struct fs)) (hone : oneCellFields P fs = true) (hC : P.cellsOf e = fs.size) (hz : 0 < fs.size)
    (h : DataW.trod enc P w base spare held fuel t [.slice A n c] = some x) :
    n ≤ c ∧ c ≤ maxLen ∧ ∃ F : Nat → Nat → Value, SlAt w fs.size A n F ∧
      ∀ k, k < n → ∀ (j : Nat) (f : Field), fs[j]? = some f → ∃ (m : Nat) (y : DataW H × List MemPlace), DataW.trod enc P w base spare held m f.type [F k j] = some y := by
  rcases open_slice ht h with ⟨h0, _⟩ | ⟨a, len, cap, m, nf, D, Pl, hcs, hb, hl, hm, hmm, hx, hi⟩
  · simp only [List.cons.injEq, Value.slice.injEq, and_true] at h0
    obtain ⟨rfl, rfl, rfl⟩ := h0
    exact ⟨Nat.le_refl _, Nat.zero_le _, fun _ _ => undef, fun k hk => absurd hk (by omega), fun k hk => absurd hk (by omega)⟩
  · simp only [List.cons.injEq, Value.slice.injEq, and_true] at hcs
    obtain ⟨rfl, rfl, rfl⟩ := hcs
    have key : ∀ k, k < n → ∀ j, j < fs.size → ∃ v, w.cell? (a.add (k * fs.size + j)) = some v ∧ ∀ f, fs[j]? = some f → ∃ (m : Nat) (y : DataW H × List MemPlace), DataW.trod enc P w base spare held m f.type [v] = some y := by
      intro k hk j hj
      have hkm : k < m := by rw [hmm]; split <;> omega
      obtain ⟨cs', hc, ht'⟩ := hi k hkm
      rw [hC] at hc
      obtain ⟨ys, n', hn', hy, hlen, hyl, hf⟩ := DataW.trod_struct he ht'
      obtain ⟨_, hcl, hat⟩ := World.cells?_some hc
      have hcell := hat j hj
      have hv : cs'[j]? = some (cs'[j]'(by omega)) := List.getElem?_eq_getElem (by omega)
      refine ⟨_, by rw [← Go.Deep.add_add, hcell, hv], fun f hfj => ?_⟩
      obtain ⟨ho, hk'⟩ := hone_of hone j f hfj
      have h1 := hf j f hfj
      rw [ho, hk'] at h1
      have hone' : (cs'.drop j).take 1 = [cs'[j]'(by omega)] := by
        rw [List.drop_eq_getElem_cons (by omega)]
        rfl
      rw [hone'] at h1
      exact ⟨_, _, h1.trans (List.getElem?_eq_getElem (by omega))⟩
    refine ⟨hl, hm, fun k j => (w.cell? (a.add (k * fs.size + j))).getD undef, fun k hk => ?_, fun k hk j f hfj => ?_⟩
    · obtain ⟨v, hv, _⟩ := key 0 (by omega) 0 hz
      have hsp : a.spot = none := by
        have h0 := World.cell?_spot hv
        simpa [Addr.add] using h0
      have hlt := World.block_lt_of_cell? w _ hv
      obtain ⟨b, o, s⟩ := a
      simp only at hsp
      subst hsp
      have hadd : ∀ i, (⟨b, o, none⟩ : Addr).add i = ⟨b, o + i, none⟩ := fun i => by
        unfold Addr.add
        split
        · simp_all
        · rfl
      refine ⟨b, o, rfl, ?_, fun j hj => ?_⟩
      · rw [hadd] at hlt
        exact hlt
      · obtain ⟨u, hu, _⟩ := key k hk j hj
        rw [hadd] at hu
        simp only [hadd, hu, Option.getD_some]
    · have hj : j < fs.size := (Array.getElem?_eq_some_iff.1 hfj).1
      obtain ⟨u, hu, hr⟩ := key k hk j hj
      obtain ⟨m', y, hy⟩ := hr f hfj
      exact ⟨m', y, by simp only [hu, Option.getD_some]; exact hy⟩

end Go.Proofs.YtjijmbpgfabgcaaDoor
namespace Go.Proofs.YtjijmbpgfabgcaaDoor
open Go.RowKit
set_option linter.unusedVariables false
set_option linter.unusedSimpArgs false

/-- The slice value reads as the cells xs, 'size' of them an element. -/
def RdV (w : World) (size : Nat) (A : Option Addr) (n : Nat) (xs : List Value) : Prop := xs.length = n * size ∧ SlAt w size A n (fun i j => xs.getD (i * size + j) undef)

theorem addr_add (b o i : Nat) : (⟨b, o, none⟩ : Addr).add i = ⟨b, o + i, none⟩ := by
  unfold Addr.add
  split
  · simp_all
  · rfl

section
variable {P : Program} (w : World)

theorem run_append_of_nil (base : Nat) (t ty e : TypeId) (i : TypeInfo) (size : Nat) (ht : P.underlying t = some (.slice e)) (hi : P.info? e = some i)
    (v : Value) (n : Nat) (xs : List Value) (hown : w.ownsRow base e size v n xs) (c : Nat) : (Builtin.append_ #[t, t] ty #[v, .slice none 0 c]).run P w = .ok v w := by
  rcases hown.2 with ⟨rfl, rfl⟩ | ⟨g, cap, cur, rfl, _, _, hnc, _⟩
  · simp [Builtin.append_, run_underlying ht, sizeOf, typeInfo, hi, Builtin.lenOf, Builtin.firstCells]
  · simp [Builtin.append_, run_underlying ht, sizeOf, typeInfo, hi, Builtin.lenOf, Builtin.firstCells, hnc, storeCells]

theorem rd_cells {size : Nat} (hsz : 0 < size) {A : Option Addr} {m : Nat} {news : List Value} (hr : RdV w size A m news) (hm : 0 < m) :
    ∃ b off, A = some ⟨b, off, none⟩ ∧ b < w.heap.size ∧ ∀ j u, news[j]? = some u → w.cell? ((⟨b, off, none⟩ : Addr).add j) = some u := by
  obtain ⟨b, off, e, hb, _⟩ := hr.2 0 hm
  refine ⟨b, off, e, hb, fun j u hu => ?_⟩
  have hj : j < news.length := (List.getElem?_eq_some_iff.1 hu).1
  rw [hr.1] at hj
  have hk : j / size < m := Nat.div_lt_of_lt_mul (by rw [Nat.mul_comm]; exact hj)
  obtain ⟨b', off', e', _, hc⟩ := hr.2 (j / size) hk
  rw [e] at e'
  injection e' with e'
  injection e' with e1 e2
  subst e1
  subst e2
  have h := hc (j % size) (Nat.mod_lt _ hsz)
  have e2 : j / size * size + j % size = j := by rw [Nat.mul_comm]; exact Nat.div_add_mod j size
  simp only [e2] at h
  rw [addr_add, h]
  simp [List.getD, hu]

theorem run_append_any (base : Nat) (t ty e : TypeId) (i : TypeInfo) (z : Value) (size bytes : Nat) (ht : P.underlying t = some (.slice e)) (hi : P.info? e = some i) (hz : i.zero = some z)
    (hsize : i.size = size) (hby : i.bytes = bytes) (hzs : z.cells.size = size) (hsz : 0 < size)
    (v : Value) (n : Nat) (xs : List Value) (hown : w.ownsRow base e size v n xs)
    (A : Option Addr) (m c : Nat) (news : List Value) (hr : RdV w size A m news) (h1 : ∀ u ∈ news, u.oneCell' = true)
    (h63 : n + m ≤ maxLen) (hbytes : (n + m) * bytes ≤ 140737488355328) (hbase : base ≤ w.heap.size) (hA : A = none → m = 0) :
    ∃ v' w', (Builtin.append_ #[t, t] ty #[v, .slice A m c]).run P w = .ok v' w' ∧ w'.ownsRow base e size v' (n + m) (xs ++ news) ∧ w.grownBy w' v.ownBlock ∧
      (v'.ownBlock = v.ownBlock ∨ v'.ownBlock = some w.heap.size) := by
  rcases A with _ | ad
  · have hm := hA rfl
    subst hm
    have hn : news = [] := List.eq_nil_of_length_eq_zero (by simpa using hr.1)
    subst hn
    exact ⟨v, w, run_append_of_nil w base t ty e i size ht hi v n xs hown c, by simpa using hown, grown_refl w _, .inl rfl⟩
  · have hcells : ∀ j u, news[j]? = some u → w.cell? (ad.add j) = some u := by
      rcases Nat.eq_zero_or_pos m with h0 | h0
      · subst h0
        have hn : news = [] := List.eq_nil_of_length_eq_zero (by simpa using hr.1)
        subst hn
        intro j u hu
        simp at hu
      · obtain ⟨b, off, e, _, hc⟩ := rd_cells w hsz hr h0
        injection e with e
        subst e
        exact hc
    obtain ⟨v', w', hrun, h2, h3, _, h5⟩ := run_append_own_at (P := P) w base t ty e i z size bytes ht hi hz hsize hby hzs hsz v n xs hown ad m c news hr.1 hcells h1 h63 hbytes hbase
    exact ⟨v', w', hrun, h2, h3, h5⟩

theorem wp_append_any {o : Oper} {a : Act} {K : Act → World → Prop} {Q : Exit → Act → World → Prop} (s x : Operand) (t : TypeId)
    (ho : o.op = .call { callee := .builtin .append, args := #[s, x], argTypes := #[t, t] })
    (base : Nat) (e : TypeId) (i : TypeInfo) (z : Value) (size bytes : Nat) (ht : P.underlying t = some (.slice e)) (hi : P.info? e = some i) (hz : i.zero = some z)
    (hsize : i.size = size) (hby : i.bytes = bytes) (hzs : z.cells.size = size) (hsz : 0 < size)
    (v : Value) (n : Nat) (xs : List Value) (hs : a.eval s = v) (hown : w.ownsRow base e size v n xs)
    (A : Option Addr) (m c : Nat) (news : List Value) (hx : a.eval x = .slice A m c) (hr : RdV w size A m news) (h1 : ∀ u ∈ news, u.oneCell' = true)
    (h63 : n + m ≤ maxLen) (hbytes : (n + m) * bytes ≤ 140737488355328) (hbase : base ≤ w.heap.size) (hA : A = none → m = 0)
    (h : ∀ v' w', w'.ownsRow base e size v' (n + m) (xs ++ news) → w.grownBy w' v.ownBlock → (v'.ownBlock = v.ownBlock ∨ v'.ownBlock = some w.heap.size) → K (a.put o.dst v') w') : o.wp P a w K Q := by
  obtain ⟨v', w', hrun, h2, h3, h4⟩ := run_append_any (P := P) w base t o.type e i z size bytes ht hi hz hsize hby hzs hsz v n xs hown A m c news hr h1 h63 hbytes hbase hA
  unfold Oper.wp execOp
  simp only [ho, resolve, invoke, builtin, Sem.run_bind, Sem.run_pure, Result.andThen_ok, List.map_toArray, List.map_cons, List.map_nil, hs, hx, hrun]
  exact h v' w' h2 h3 h4

theorem wpList_append_any {ops : Array Oper} {rest : List Oper} {o : Oper} {a : Act} {Q : Exit → Act → World → Prop} (hgd : o.guard = none) (s x : Operand) (t : TypeId)
    (ho : o.op = .call { callee := .builtin .append, args := #[s, x], argTypes := #[t, t] })
    (base : Nat) (e : TypeId) (i : TypeInfo) (z : Value) (size bytes : Nat) (ht : P.underlying t = some (.slice e)) (hi : P.info? e = some i) (hz : i.zero = some z)
    (hsize : i.size = size) (hby : i.bytes = bytes) (hzs : z.cells.size = size) (hsz : 0 < size)
    (v : Value) (n : Nat) (xs : List Value) (hs : a.eval s = v) (hown : w.ownsRow base e size v n xs)
    (A : Option Addr) (m c : Nat) (news : List Value) (hx : a.eval x = .slice A m c) (hr : RdV w size A m news) (h1 : ∀ u ∈ news, u.oneCell' = true)
    (h63 : n + m ≤ maxLen) (hbytes : (n + m) * bytes ≤ 140737488355328) (hbase : base ≤ w.heap.size) (hA : A = none → m = 0)
    (h : ∀ v' w', w'.ownsRow base e size v' (n + m) (xs ++ news) → w.grownBy w' v.ownBlock → (v'.ownBlock = v.ownBlock ∨ v'.ownBlock = some w.heap.size) → wpList P ops Q rest (a.put o.dst v') w') : wpList P ops Q (o :: rest) a w :=
  wpList_plain hgd fun _ hK => wp_append_any w s x t ho base e i z size bytes ht hi hz hsize hby hzs hsz v n xs hs hown A m c news hx hr h1 h63 hbytes hbase hA fun v' w' h2 h3 h4 => hK _ _ (h v' w' h2 h3 h4)

theorem step_append_any {ops : Array Oper} {o : Oper} {a : Act} {K : Act → World → Prop} {Q : Exit → Act → World → Prop} {E : Prop} (hgd : o.guard = none) (s x : Operand) (t : TypeId)
    (ho : o.op = .call { callee := .builtin .append, args := #[s, x], argTypes := #[t, t] })
    (base : Nat) (e : TypeId) (i : TypeInfo) (z : Value) (size bytes : Nat) (ht : P.underlying t = some (.slice e)) (hi : P.info? e = some i) (hz : i.zero = some z)
    (hsize : i.size = size) (hby : i.bytes = bytes) (hzs : z.cells.size = size) (hsz : 0 < size)
    (v : Value) (n : Nat) (xs : List Value) (hs : a.eval s = v) (hown : w.ownsRow base e size v n xs)
    (A : Option Addr) (m c : Nat) (news : List Value) (hx : a.eval x = .slice A m c) (hr : RdV w size A m news) (h1 : ∀ u ∈ news, u.oneCell' = true)
    (h63 : n + m ≤ maxLen) (hbytes : (n + m) * bytes ≤ 140737488355328) (hbase : base ≤ w.heap.size) (hA : A = none → m = 0)
    (h : ∀ v' w', w'.ownsRow base e size v' (n + m) (xs ++ news) → w.grownBy w' v.ownBlock → (v'.ownBlock = v.ownBlock ∨ v'.ownBlock = some w.heap.size) → K (a.put o.dst v') w') :
    if Region.wanted o (yielded ops a.tmps) = true then Oper.wp P o a w K Q else E := by
  have hw : Region.wanted o (yielded ops a.tmps) = true := by simp [Region.wanted, hgd]
  rw [if_pos hw]
  exact wp_append_any w s x t ho base e i z size bytes ht hi hz hsize hby hzs hsz v n xs hs hown A m c news hx hr h1 h63 hbytes hbase hA h
end

/-- A slice of integers that reads as the list l. -/
def Rd (w : World) (k : IntKind) (v : Value) (l : List Int) : Prop :=
  ∃ A cap, v = .slice A l.length cap ∧ l.length ≤ cap ∧ cap ≤ maxLen ∧ (A = none → l = []) ∧ SlAt w 1 A l.length (fun i _ => .int k (l.getD i 0))

section
variable {w w' : World} {k : IntKind} {v : Value} {l : List Int}
theorem Rd.below (h : Rd w k v l) (hb : Below w.heap.size w w') : Rd w' k v l := by
  obtain ⟨A, cap, e, h1, h2, h3, h4⟩ := h
  exact ⟨A, cap, e, h1, h2, h3, h4.below hb⟩
theorem Rd.alloc (h : Rd w k v l) (o : Obj) : Rd (w.alloc o) k v l := h.below ((Below.refl _ _).alloc (Nat.le_refl _) o)
theorem Rd.drewN (h : Rd w k v l) (n : Nat) : Rd (w.drewN n) k v l := h
theorem Rd.drew (h : Rd w k v l) : Rd w.drew k v l := h
theorem Rd.nil (w : World) (k : IntKind) : Rd w k (.slice none 0 0) [] := ⟨none, 0, rfl, Nat.le_refl _, Nat.zero_le _, fun _ => rfl, fun _ h => absurd h (by simp)⟩
theorem Rd.rdv {A : Option Addr} {n cap : Nat} (h : Rd w k (.slice A n cap) l) : n = l.length ∧ (A = none → n = 0) ∧ l.length ≤ cap ∧ cap ≤ maxLen ∧ RdV w 1 A n (l.map (Value.int k)) := by
  obtain ⟨A', cap', e, h1, h2, h3, h4⟩ := h
  simp only [Value.slice.injEq] at e
  obtain ⟨rfl, rfl, rfl⟩ := e
  refine ⟨rfl, fun e => by rw [h3 e]; rfl, h1, h2, by simp, fun i hi => ?_⟩
  obtain ⟨b, off, e, hb, hc⟩ := h4 i hi
  refine ⟨b, off, e, hb, fun j hj => ?_⟩
  obtain rfl : j = 0 := by omega
  rw [hc 0 (by omega)]
  simp [List.getD, hi]
theorem Rd.form (h : Rd w k v l) : ∃ A cap, v = .slice A l.length cap := by obtain ⟨A, cap, e, _⟩ := h; exact ⟨A, cap, e⟩
theorem Rd.at_ {A : Option Addr} {n cap : Nat} (h : Rd w k (.slice A n cap) l) (i : Nat) (hi : i < l.length) : ∃ b off, A = some ⟨b, off, none⟩ ∧ b < w.heap.size ∧ w.cell? ⟨b, off + i, none⟩ = some (.int k (l.getD i 0)) := by
  obtain ⟨A', cap', e, h1, h2, h3, h4⟩ := h
  simp only [Value.slice.injEq] at e
  obtain ⟨rfl, _, _⟩ := e
  obtain ⟨b, off, e, hb, hc⟩ := h4 i hi
  exact ⟨b, off, e, hb, by simpa using hc 0 (by omega)⟩
theorem rd_of_own {base : Nat} {e : TypeId} {n : Nat} (h : w.ownsRow base e 1 v n (l.map (Value.int k))) : Rd w k v l := by
  have hn : n = l.length := by have := h.1; simpa using this.symm
  subst hn
  rcases h.2 with ⟨rfl, h0⟩ | ⟨g, cap, cur, rfl, hb, hg, hn, hc, hs, hx⟩
  · have h0' : l = [] := List.eq_nil_of_length_eq_zero h0
    subst h0'
    exact Rd.nil w k
  · refine ⟨_, cap, rfl, hn, hc, fun e => (by cases e), fun i hi => ⟨g, 0, rfl, (Array.getElem?_eq_some_iff.1 hg).1, fun j hj => ?_⟩⟩
    obtain rfl : j = 0 := by omega
    rw [Nat.zero_add, World.ownsRow.cellAt h _ (by simpa using hi)]
    simp [hi]
end

theorem oneInts (k : IntKind) (l : List Int) : ∀ u ∈ l.map (Value.int k), u.oneCell' = true := fun u hu => by
  obtain ⟨x, _, rfl⟩ := List.mem_map.1 hu
  rfl

/-- The front and the back of a slice that reads as a list. -/
theorem Rd.pre {w : World} {k : IntKind} {A : Option Addr} {n cap : Nat} {l : List Int} (h : Rd w k (.slice A n cap) l) {m : Nat} (hm : m ≤ l.length) : Rd w k (.slice A m cap) (l.take m) := by
  obtain ⟨A', cap', e, h1, h2, h3, h4⟩ := h
  simp only [Value.slice.injEq] at e
  obtain ⟨rfl, rfl, rfl⟩ := e
  have hl : (l.take m).length = m := by simp; omega
  refine ⟨A, cap, by rw [hl], by omega, h2, fun e => by rw [h3 e]; simp, fun i hi => ?_⟩
  rw [hl] at hi
  obtain ⟨b, off, e, hb, hc⟩ := h4 i (by omega)
  refine ⟨b, off, e, hb, fun j hj => ?_⟩
  rw [hc j hj]
  simp [List.getD, List.getElem?_take, hi]
theorem Rd.suf {w : World} {k : IntKind} {b off n cap : Nat} {l : List Int} (h : Rd w k (.slice (some ⟨b, off, none⟩) n cap) l) {m : Nat} (hm : m ≤ l.length) : Rd w k (.slice (some ⟨b, off + m, none⟩) (l.length - m) (cap - m)) (l.drop m) := by
  obtain ⟨A', cap', e, h1, h2, h3, h4⟩ := h
  simp only [Value.slice.injEq] at e
  obtain ⟨rfl, rfl, rfl⟩ := e
  refine ⟨some ⟨b, off + m, none⟩, cap - m, by rw [List.length_drop], by simp; omega, by omega, fun e => (by cases e), fun i hi => ?_⟩
  rw [List.length_drop] at hi
  obtain ⟨b', off', e, hb, hc⟩ := h4 (i + m) (by omega)
  simp only [Option.some.injEq, Addr.mk.injEq, and_true] at e
  obtain ⟨rfl, rfl⟩ := e
  refine ⟨b, _, rfl, hb, fun j hj => ?_⟩
  have := hc j hj
  rw [show off + m + (i * 1 + j) = off + ((i + m) * 1 + j) by omega, this]
  simp [List.getD, List.getElem?_drop, Nat.add_comm]
theorem Rd.emp (w : World) (k : IntKind) (A : Option Addr) (cap : Nat) (hc : cap ≤ maxLen) : Rd w k (.slice A 0 cap) [] := ⟨A, cap, rfl, Nat.zero_le _, hc, fun _ => rfl, fun _ h => absurd h (by simp)⟩

/-- Bytes as a text. -/
def bstr (l : List Int) : ByteArray := l.foldl (fun r n => r.push (UInt8.ofNat n.toNat)) ByteArray.empty
theorem bstr_aux (l : List Int) (s : ByteArray) : (l.foldl (fun r n => r.push (UInt8.ofNat n.toNat)) s).data.toList = s.data.toList ++ l.map (fun n => UInt8.ofNat n.toNat) := by
  induction l generalizing s with
  | nil => simp
  | cons x r ih => simp [ih]
theorem bstr_data (l : List Int) : (bstr l).data.toList = l.map (fun n => UInt8.ofNat n.toNat) := by
  rw [bstr, bstr_aux]; simp
theorem bstr_inj {a b : List Int} (ha : ∀ x ∈ a, 0 ≤ x ∧ x ≤ 255) (hb : ∀ x ∈ b, 0 ≤ x ∧ x ≤ 255) (h : bstr a = bstr b) : a = b := by
  have h1 : a.map (fun n => UInt8.ofNat n.toNat) = b.map (fun n => UInt8.ofNat n.toNat) := by rw [← bstr_data, ← bstr_data, h]
  clear h
  induction a generalizing b with
  | nil => cases b with
    | nil => rfl
    | cons y s => simp at h1
  | cons x r ih => cases b with
    | nil => simp at h1
    | cons y s =>
      simp only [List.map_cons, List.cons.injEq] at h1
      have hx := ha x (by simp)
      have hy := hb y (by simp)
      have e : x = y := by
        have := congrArg UInt8.toNat h1.1
        simp only [UInt8.toNat_ofNat'] at this
        omega
      rw [e, ih (fun z hz => ha z (by simp [hz])) (fun z hz => hb z (by simp [hz])) h1.2]

theorem run_conv {P : Program} {w : World} (src dst e : TypeId) (hs : P.underlying src = some (.slice e)) (he : P.underlying e = some (.int .u8)) (hd : P.underlying dst = some .string)
    {A : Option Addr} {n cap : Nat} {l : List Int} (h : Rd w .u8 (.slice A n cap) l) : (convert src dst (.slice A n cap)).run P w = .ok (.string (bstr l)) w := by
  rw [run_convert_bytes_string w src dst e A n cap hs he hd]
  obtain ⟨rfl, hA, h1, h2, h3⟩ := h.rdv
  rcases A with _ | a
  · have h0 := hA rfl
    have h0' : l = [] := List.eq_nil_of_length_eq_zero h0
    subst h0'
    simp [Conv.bytesToString, bstr]
  · refine run_bytesToString w a l.length cap l ?_
    rcases Nat.eq_zero_or_pos l.length with h0 | h0
    · have h0' : l = [] := List.eq_nil_of_length_eq_zero h0
      subst h0'
      exact run_loadCells_list w a [] (fun j v hv => by simp at hv)
    · obtain ⟨b, off, e, _, hc⟩ := rd_cells w (by decide) h3 h0
      injection e with e
      subst e
      have := run_loadCells_list (P := P) w ⟨b, off, none⟩ (l.map (Value.int .u8)) hc
      simpa using this

end Go.Proofs.YtjijmbpgfabgcaaDoor
namespace Go.Proofs.YtjijmbpgfabgcaaDoor
open Go.RowKit
set_option linter.unusedVariables false
set_option linter.unusedSimpArgs false

open Go.ChangeShapes Go.WideShapes Go.Deep in
theorem open_elems {H : Type} {enc : TypeId × Value → H} {P : Program} {w : World} {base : Nat} {spare : Nat → Bool} {held : Bool} {t e : TypeId} {C fuel : Nat} {A : Option Addr} {n c : Nat} {x : DataW H × List MemPlace}
    (ht : P.underlying t = some (.slice e)) (hC : P.cellsOf e = C) (hz : 0 < C)
    (h : DataW.trod enc P w base spare held fuel t [.slice A n c] = some x) :
    n ≤ c ∧ c ≤ maxLen ∧ (A = none → n = 0) ∧ ∃ F : Nat → Nat → Value, SlAt w C A n F ∧
      ∀ k, k < n → ∃ (m : Nat) (y : DataW H × List MemPlace), DataW.trod enc P w base spare held m e ((List.range C).map (F k)) = some y := by
  rcases open_slice ht h with ⟨h0, _⟩ | ⟨a, len, cap, m, nf, D, Pl, hcs, hb, hl, hm, hmm, hx, hi⟩
  · simp only [List.cons.injEq, Value.slice.injEq, and_true] at h0
    obtain ⟨rfl, rfl, rfl⟩ := h0
    exact ⟨Nat.le_refl _, Nat.zero_le _, fun _ => rfl, fun _ _ => undef, fun k hk => absurd hk (by omega), fun k hk => absurd hk (by omega)⟩
  · simp only [List.cons.injEq, Value.slice.injEq, and_true] at hcs
    obtain ⟨rfl, rfl, rfl⟩ := hcs
    have key : ∀ k, k < n → ∃ cs' : List Value, cs'.length = C ∧ (∀ j, j < C → w.cell? (a.add (k * C + j)) = cs'[j]?) ∧ ∃ y, DataW.trod enc P w base spare held nf e cs' = some y := by
      intro k hk
      have hkm : k < m := by rw [hmm]; split <;> omega
      obtain ⟨cs', hc, ht'⟩ := hi k hkm
      rw [hC] at hc
      obtain ⟨_, hcl, hat⟩ := World.cells?_some hc
      exact ⟨cs', hcl, fun j hj => by rw [← Go.Deep.add_add]; exact hat j hj, _, ht'⟩
    refine ⟨hl, hm, fun h => (by cases h), fun k j => (w.cell? (a.add (k * C + j))).getD undef, fun k hk => ?_, fun k hk => ?_⟩
    · obtain ⟨cs0, hl0, h0, _⟩ := key 0 (by omega)
      have hv : cs0[0]? = some (cs0[0]'(by omega)) := List.getElem?_eq_getElem (by omega)
      have hv0 := (h0 0 hz).trans hv
      have hsp : a.spot = none := by
        have h0 := World.cell?_spot hv0
        simpa [Addr.add] using h0
      have hlt := World.block_lt_of_cell? w _ hv0
      obtain ⟨b, o, s⟩ := a
      simp only at hsp
      subst hsp
      rw [addr_add] at hlt
      refine ⟨b, o, rfl, hlt, fun j hj => ?_⟩
      obtain ⟨cs', hl', h', _⟩ := key k hk
      have hu : cs'[j]? = some (cs'[j]'(by omega)) := List.getElem?_eq_getElem (by omega)
      have hj' := (h' j hj).trans hu
      rw [addr_add] at hj'
      simp only [addr_add, hj', Option.getD_some]
    · obtain ⟨cs', hl', h', y, hy⟩ := key k hk
      refine ⟨nf, y, ?_⟩
      rw [← hy]
      congr 1
      apply List.ext_getElem?
      intro j
      by_cases hj : j < C
      · have hu : cs'[j]? = some (cs'[j]'(by omega)) := List.getElem?_eq_getElem (by omega)
        rw [hu]
        simp [hj, h' j hj, hu]
      · rw [List.getElem?_eq_none (by simp; omega), List.getElem?_eq_none (by omega)]

theorem SlAt.pre {w : World} {sz : Nat} {A : Option Addr} {n m : Nat} {F : Nat → Nat → Value} (h : SlAt w sz A n F) (hm : m ≤ n) : SlAt w sz A m F := fun k hk => h k (by omega)

open Go.ChangeShapes Go.WideShapes in
/-- An array of one-cell elements that came in. -/
theorem open_arr {H : Type} {enc : TypeId × Value → H} {P : Program} {w : World} {base : Nat} {spare : Nat → Bool} {held : Bool} {t e : TypeId} {k : IntKind} {N fuel : Nat} {cs : List Value} {x : DataW H × List MemPlace}
    (ht : P.underlying t = some (.array N e)) (he : P.underlying e = some (.int k)) (hC : P.cellsOf e = 1) (hN : P.cellsOf t = N)
    (h : DataW.trod enc P w base spare held fuel t cs = some x) : ∃ l : List Int, l.length = N ∧ cs = l.map (Value.int k) ∧ ∀ n ∈ l, (Lit.int k n).wf = true := by
  obtain ⟨xs, m, rfl, hx, hlen, hxl, hi⟩ := DataW.trod_array ht h
  rw [hN] at hlen
  have key : ∀ i, i < N → ∃ n, cs[i]? = some (.int k n) ∧ (Lit.int k n).wf = true := by
    intro i hiN
    have h1 := hi i hiN
    rw [hC, Nat.mul_one] at h1
    have hone : (cs.drop i).take 1 = [cs[i]'(by omega)] := by
      rw [List.drop_eq_getElem_cons (by omega)]
      rfl
    rw [hone, List.getElem?_eq_getElem (by omega)] at h1
    obtain ⟨n, e1, _, e3⟩ := DataW.trod_int he h1
    simp only [List.cons.injEq, and_true] at e1
    exact ⟨n, by rw [List.getElem?_eq_getElem (by omega), e1], e3⟩
  have gen : ∀ (cs : List Value), (∀ i, i < cs.length → ∃ n, cs[i]? = some (.int k n) ∧ (Lit.int k n).wf = true) → ∃ l : List Int, l.length = cs.length ∧ cs = l.map (Value.int k) ∧ ∀ n ∈ l, (Lit.int k n).wf = true := by
    intro cs
    induction cs with
    | nil => exact fun _ => ⟨[], rfl, rfl, fun n hn => by simp at hn⟩
    | cons c r ih =>
      intro hk
      obtain ⟨l, h1, h2, h3⟩ := ih (fun i hi => by simpa using hk (i + 1) (by simp; omega))
      obtain ⟨n, h4, h5⟩ := hk 0 (by simp)
      simp at h4
      subst h4
      exact ⟨n :: l, by simp [h1], by simp [h2], fun m hm => by
        rcases List.mem_cons.1 hm with rfl | hm
        · exact h5
        · exact h3 m hm⟩
  obtain ⟨l, h1, h2, h3⟩ := gen cs (fun i hi => key i (by omega))
  exact ⟨l, by omega, h2, h3⟩
theorem okWide_array {P : Program} {w : World} {r : Reach} {base : Nat} {t e : TypeId} {N : Nat} {v : Value} (ht : P.underlying t = some (.array N e)) (h : Value.okWide P w r base t v) : ∃ cs, v = .agg cs ∧ cs.size = P.cellsOf t := by
  simp only [Value.okWide, ht] at h
  obtain ⟨cs, h1, h2, _⟩ := h
  exact ⟨cs, h1, h2⟩

/-! A region that draws its order, whose calls may make memory, but hand back a value that doesn't depend on the order: one walk serves every order. -/
structure Cls (B : Nat) (W : World) where
  w : World
  h : Below B W w
instance (B : Nat) (W : World) : Nonempty (Cls B W) := ⟨⟨W, Below.refl B W⟩⟩
section
variable {B : Nat} {W : World}
theorem Cls.cell {p : Addr} {v : Value} (h : W.cell? p = some v) (hp : p.block < B) (x : Cls B W) : x.w.cell? p = some v := (x.h.cell hp).trans h
theorem Cls.blk {g : Nat} {t : TypeId} {cs : Array Value} (h : Blk W g t cs) (hg : g < B) (x : Cls B W) : Blk x.w g t cs := h.below x.h hg
theorem Cls.cells {p : Addr} {v : Value} (h : W.cell? p = some v) (hp : p.block < B) : ∀ x : Cls B W, x.w.cell? p = some v := fun x => x.cell h hp
theorem Cls.call {P : Program} {f : FuncId} {args : Array Value} {x : Cls B W} {v : Value} (hB : B ≤ W.heap.size)
    (h : Calls P f args x.w fun e w' => e = .returned v ∧ Below x.w.heap.size x.w w') : Calls P f args x.w fun e w' => e = .returned v ∧ ∃ y : Cls B W, w' = y.w :=
  h.mono fun e w' ⟨he, hb⟩ => ⟨he, ⟨⟨w', x.h.trans (hb.mono (Nat.le_trans hB x.h.size))⟩, rfl⟩⟩
theorem Cls.quiet {P : Program} {f : FuncId} {args : Array Value} {x : Cls B W} {v : Value}
    (h : Calls P f args x.w fun e w' => e = .returned v ∧ x.w = w') : Calls P f args x.w fun e w' => e = .returned v ∧ ∃ y : Cls B W, w' = y.w :=
  h.mono fun e w' ⟨he, hb⟩ => ⟨he, x, hb.symm⟩
theorem Cls.quietN {P : Program} {f : FuncId} {args : Array Value} {x : Cls B W} {v : Value}
    (h : Calls P f args x.w fun e w' => e = .returned v ∧ ∃ n, x.w.drewN n = w') : Calls P f args x.w fun e w' => e = .returned v ∧ ∃ y : Cls B W, w' = y.w :=
  h.mono fun e w' ⟨he, n, hb⟩ => ⟨he, ⟨w', hb ▸ below_drewN x.h n⟩, rfl⟩
theorem wp_region_cls {P : Program} {id : Nat} {Q : Exit → Act → World → Prop} {a : Act} {w : World} {l : List Oper} (hm : P.follows .mixedOrders = true) (hB : Region.lexB .any l.toArray = true)
    (h : wpQuiet P l.toArray (fun w' => ∃ x : Cls w.heap.size w, w' = x.w) (fun a' => ∀ w', Below w.heap.size w w' → Q .normal a' w') l a) : (Code.region id l.toArray true).wp P Q a w :=
  wp_region_quiet (C := fun w' => ∃ x : Cls w.heap.size w, w' = x.w) hm hB ⟨⟨_, below_drewN (Below.refl _ w) 1⟩, rfl⟩
    (by
      have e : (fun a' => ∀ w', (∃ x : Cls w.heap.size w, w' = x.w) → Q .normal a' w') = fun a' => ∀ w', Below w.heap.size w w' → Q .normal a' w' := by
        funext a'
        exact propext ⟨fun hh w' hw => hh _ ⟨⟨w', hw⟩, rfl⟩, fun hh w' ⟨x, hx⟩ => hx ▸ hh x.w x.h⟩
      rw [e]
      exact h)
end

/-- The world under a name, with what is known of it. -/
theorem wp_world {P : Program} {c : Code} {Q : Exit → Act → World → Prop} {a : Act} {w : World} (R : World → Prop) (hR : R w) (h : ∀ wz, R wz → Code.wp P c Q a wz) : Code.wp P c Q a w := h w hR

/-! What stays in a region: all that was there. -/
section
variable {W w w' : World}
theorem keepB_cell {p : Addr} {v : Value} (h : W.cell? p = some v) : ∀ w' : World, Below W.heap.size W w' → w'.cell? p = some v := fun w' hb => (hb.cell (World.block_lt_of_cell? W p h)).trans h
theorem keepB_alloc (h : Below W.heap.size W w) (o : Obj) : Below W.heap.size W (w.alloc o) := h.alloc h.size o
theorem keepB_call (h : Below W.heap.size W w) (k : Below w.heap.size w w') : Below W.heap.size W w' := h.trans (k.mono h.size)
theorem keepB_drew (h : Below W.heap.size W w) : Below W.heap.size W w.drew := below_drewN h 1
theorem keepB_set (h : Below W.heap.size W w) {p : Addr} (hp : W.heap.size ≤ p.block) (u : Value) : Below W.heap.size W (w.setCell p u) := h.setCell hp u
end

section
variable {X w' : World} {cs cs' : Array Value} {t t' : TypeId}
theorem kept_all (h : Below X.heap.size X w') : (∀ b i, b < X.heap.size → w'.cell? ⟨b, i, none⟩ = X.cell? ⟨b, i, none⟩) ∧ (∀ b i, b < X.heap.size → w'.frozen? ⟨b, i, none⟩ = X.frozen? ⟨b, i, none⟩) ∧
    (∀ b, b < X.heap.size → b < w'.heap.size) ∧ (∀ b, b < X.heap.size → w'.heap.size ≠ b) :=
  ⟨fun b i hb => h.cell (p := ⟨b, i, none⟩) hb, fun b i hb => h.frozen (p := ⟨b, i, none⟩) hb, fun b hb => Nat.lt_of_lt_of_le hb h.size, fun b hb => by have := h.size; omega⟩
/-- The blocks that were made just ahead of a call that keeps what was there. -/
theorem alloc_kept (h : Below (X.alloc (.cells cs t)).heap.size (X.alloc (.cells cs t)) w') :
    X.heap.size < w'.heap.size ∧ w'.heap.size ≠ X.heap.size ∧ (∀ i, w'.cell? ⟨X.heap.size, i, none⟩ = cs[i]?) ∧ (∀ i, w'.frozen? ⟨X.heap.size, i, none⟩ = false) := by
  have hb := (Blk.new X t cs).same h
  have hs := h.size
  rw [World.size_alloc] at hs
  exact ⟨by omega, by omega, fun i => hb.cell i, fun i => hb.frozen i⟩
theorem alloc_kept2 (h : Below ((X.alloc (.cells cs t)).alloc (.cells cs' t')).heap.size ((X.alloc (.cells cs t)).alloc (.cells cs' t')) w') :
    (X.heap.size + 1 < w'.heap.size ∧ X.heap.size < w'.heap.size) ∧ (w'.heap.size ≠ X.heap.size ∧ w'.heap.size ≠ X.heap.size + 1) ∧ (∀ i, w'.cell? ⟨X.heap.size, i, none⟩ = cs[i]?) ∧ (∀ i, w'.frozen? ⟨X.heap.size, i, none⟩ = false) ∧
      (∀ i, w'.cell? ⟨X.heap.size + 1, i, none⟩ = cs'[i]?) ∧ (∀ i, w'.frozen? ⟨X.heap.size + 1, i, none⟩ = false) := by
  have hb := ((Blk.new X t cs).alloc (.cells cs' t')).same h
  have hb2 := (Blk.new (X.alloc (.cells cs t)) t' cs').same h
  have hs := h.size
  rw [World.size_alloc] at hb2
  rw [World.size_alloc, World.size_alloc] at hs
  exact ⟨⟨by omega, by omega⟩, ⟨by omega, by omega⟩, fun i => hb.cell i, fun i => hb.frozen i, fun i => hb2.cell i, fun i => hb2.frozen i⟩
end

theorem blk_new_at {w : World} {n : Nat} {t : TypeId} {cs : Array Value} (hn : n = w.heap.size) : Blk (w.alloc (.cells cs t)) n t cs := hn ▸ Blk.new w t cs

end Go.Proofs.YtjijmbpgfabgcaaDoor
namespace Go.Proofs.YtjijmbpgfabgcaaDoor
open Go.RowKit
set_option linter.unusedVariables false
set_option linter.unusedSimpArgs false

theorem keepB_drewN {W w : World} (h : Below W.heap.size W w) (n : Nat) : Below W.heap.size W (w.drewN n) := below_drewN h n
theorem keepB_grown {W w w' : World} {r : Option Nat} (h : Below W.heap.size W w) (k : w.grownBy w' r) (hr : ∀ g, r = some g → W.heap.size ≤ g) : Below W.heap.size W w' := h.grown k h.size hr
theorem keepB_of_none {W w' : World} (k : W.grownBy w' none) : Below W.heap.size W w' := below_of_grown k (Nat.le_refl _) (fun _ h => by cases h)

/-- Append at a row that the region has laid itself, full to its end: it makes a new row. -/
theorem step_append_lit {P : Program} {ops : Array Oper} {o : Oper} {a : Act} {w X : World} {K : Act → World → Prop} {Q : Exit → Act → World → Prop} {E : Prop}
    (hg : o.guard = none) (s x : Operand) (t : TypeId) (hop : o.op = Op.call { callee := Callee.builtin Builtin.append, args := #[s, x], argTypes := #[t, t] })
    (e : TypeId) (i : TypeInfo) (z : Value) (bytes : Nat) (h1 : P.underlying t = some (.slice e)) (h2 : P.info? e = some i) (h3 : i.zero = some z) (h4 : i.size = 1) (h5 : i.bytes = bytes) (h6 : z.cells.size = 1)
    (cs : Array Value) (hs : a.eval s = .slice (some ⟨X.heap.size, 0, none⟩) cs.size cs.size) (hX : Below (X.alloc (.cells cs e)).heap.size (X.alloc (.cells cs e)) w)
    (A : Option Addr) (m c : Nat) (news : List Value) (hx : a.eval x = .slice A m c) (hr : RdV w 1 A m news) (h1c : ∀ u ∈ news, u.oneCell' = true) (hm : 0 < m)
    (b1 : cs.size + m ≤ maxLen) (b2 : (cs.size + m) * bytes ≤ 140737488355328)
    (hK : ∀ v' w', w'.ownsRow w.heap.size e 1 v' (cs.size + m) (cs.toList ++ news) → Below w.heap.size w w' → K (a.put o.dst v') w') :
    if Region.wanted o (yielded ops a.tmps) = true then Oper.wp P o a w K Q else E := by
  obtain ⟨b, off, rfl, _, hc⟩ := rd_cells w (by decide) hr hm
  have hb := (Blk.new X e cs).same hX
  refine step_append_grows hg s x t hop e i z 1 bytes h1 h2 h3 h4 h5 h6 (by decide) (some ⟨X.heap.size, 0, none⟩) cs.size cs.size cs.toList hs (fun h => by cases h) (by simp) (fun b' hb' j u hj => ?_)
    ⟨b, off, none⟩ m c news hx hr.1 hc h1c (by omega) b1 b2 (fun v' w' ho hg' => hK v' w' ho (keepB_of_none hg'))
  injection hb' with hb'
  subst hb'
  rw [addr_add, Nat.zero_add, hb.cell j, ← hj]
  simp
theorem szB {W X : World} (h : Below W.heap.size W X) : W.heap.size ≤ X.heap.size := h.size
theorem fin_grown {w w1 X w9 : World} {r : Option Nat} (hB : Below w.heap.size w w1) (hX : Below w1.heap.size w1 X) (hg : X.grownBy w9 r) (hr : ∀ b, r = some b → w.heap.size ≤ b) : Below w.heap.size w w9 :=
  (hB.trans (hX.mono hB.size)).grown hg (Nat.le_trans hB.size hX.size) hr
/-- Append at a row that was laid just before: what was there stays. -/
theorem lit_grown {W w' : World} {o : Obj} (h : (W.alloc o).grownBy w' (some W.heap.size)) : Below W.heap.size W w' :=
  ((Below.refl _ _).alloc (Nat.le_refl _) o).grown h (by simp) (fun k hk => by injection hk with hk; omega)

end Go.Proofs.YtjijmbpgfabgcaaDoor
namespace Go.Proofs.YtjijmbpgfabgcaaDoor
open Go.RowKit
set_option linter.unusedVariables false
set_option linter.unusedSimpArgs false

/-- The slice owns the cells xs: it is nil, or lies somewhere in a block from base on, nothing of it frozen, its capacity within the block. -/
def OwnM (w : World) (base : Nat) (e : TypeId) (size : Nat) (v : Value) (n : Nat) (xs : List Value) : Prop :=
  xs.length = n * size ∧ ((v = .slice none 0 0 ∧ n = 0) ∨ ∃ g off cap cur, v = .slice (some ⟨g, off, none⟩) n cap ∧ base ≤ g ∧ Blk w g e cur ∧ n ≤ cap ∧ cap ≤ maxLen ∧ off + cap * size ≤ cur.size ∧ (cur.toList.drop off).take (n * size) = xs)
section
variable {w w' : World} {base base' : Nat} {e : TypeId} {size : Nat} {v : Value} {n : Nat} {xs : List Value} {g : Nat} {t : TypeId} {cs : Array Value}
theorem mid_of_own (h : w.ownsRow base e size v n xs) : OwnM w base e size v n xs := by
  refine ⟨h.1, ?_⟩
  rcases h.2 with h2 | ⟨g, cap, cur, rfl, hb, hg, hn, hc, hs, hx⟩
  · exact .inl h2
  · exact .inr ⟨g, 0, cap, cur, rfl, hb, hg, hn, hc, by omega, by simpa using hx⟩
theorem OwnM.nil (w : World) (base : Nat) (e : TypeId) (size : Nat) : OwnM w base e size (.slice none 0 0) 0 [] := ⟨by simp, .inl ⟨rfl, rfl⟩⟩
theorem OwnM.lt (h : OwnM w base e size v n xs) : ∀ k, v.ownBlock = some k → base ≤ k ∧ k < w.heap.size := by
  intro k hk
  rcases h.2 with ⟨rfl, _⟩ | ⟨g, off, cap, cur, rfl, hb, hg, _⟩
  · simp [Value.ownBlock] at hk
  · simp [Value.ownBlock] at hk
    subst hk
    exact ⟨hb, hg.lt⟩
theorem OwnM.form (h : OwnM w base e size v n xs) : ∃ A cap, v = .slice A n cap ∧ n ≤ cap ∧ cap ≤ maxLen ∧ (A = none → n = 0) := by
  rcases h.2 with ⟨rfl, rfl⟩ | ⟨g, off, cap, cur, rfl, hb, hg, hn, hc, _⟩
  · exact ⟨none, 0, rfl, Nat.le_refl _, Nat.zero_le _, fun _ => rfl⟩
  · exact ⟨_, cap, rfl, hn, hc, fun e => by simp at e⟩
theorem OwnM.low (h : OwnM w base e size v n xs) (hb : base' ≤ base) : OwnM w base' e size v n xs := by
  refine ⟨h.1, ?_⟩
  rcases h.2 with h2 | ⟨g, off, cap, cur, rfl, hg, r⟩
  · exact .inl h2
  · exact .inr ⟨g, off, cap, cur, rfl, by omega, r⟩
theorem OwnM.kept {row : Option Nat} (h : OwnM w base e size v n xs) (hg : w.grownBy w' row) (hne : v.ownBlock = none ∨ v.ownBlock ≠ row) : OwnM w' base e size v n xs := by
  refine ⟨h.1, ?_⟩
  rcases h.2 with h2 | ⟨g, off, cap, cur, rfl, hb, hgg, rest⟩
  · exact .inl h2
  · exact .inr ⟨g, off, cap, cur, rfl, hb, hgg.grown hg (by simpa [Value.ownBlock] using hne), rest⟩
theorem OwnM.below (h : OwnM w base e size v n xs) (hb : Below w.heap.size w w') : OwnM w' base e size v n xs :=
  h.kept (grown_below hb none) (by cases v.ownBlock <;> simp)
theorem OwnM.alloc (h : OwnM w base e size v n xs) (o : Obj) : OwnM (w.alloc o) base e size v n xs := h.below ((Below.refl _ _).alloc (Nat.le_refl _) o)
theorem OwnM.drewN (h : OwnM w base e size v n xs) (k : Nat) : OwnM (w.drewN k) base e size v n xs := h
theorem OwnM.drew (h : OwnM w base e size v n xs) : OwnM w.drew base e size v n xs := h
theorem OwnM.far (h : OwnM w base e size v n xs) {p : Addr} (hp : v.ownBlock ≠ some p.block) (u : Value) : OwnM (w.setCell p u) base e size v n xs :=
  h.kept (row := some p.block) ⟨rfl, rfl, rfl, by simp [World.setCell], fun k hk hne => Below.heap_setCell w _ u k (by rintro rfl; exact hne rfl)⟩ (.inr hp)
theorem OwnM.blk_ne (h : OwnM w base e size v n xs) (hg : Blk w g t cs) (hne : e ≠ t) : v.ownBlock ≠ some g := by
  rcases h.2 with ⟨rfl, _⟩ | ⟨g', off, cap, cur, rfl, _, hh, _⟩
  · simp [Value.ownBlock]
  · intro he
    have : g' = g := by simpa [Value.ownBlock] using he
    subst this
    exact Blk.ne_ (t := e) hh hg hne rfl
/-- How it reads. -/
theorem OwnM.rdv {A : Option Addr} {cap : Nat} (h : OwnM w base e size (.slice A n cap) n xs) : RdV w size A n xs ∧ (A = none → n = 0) := by
  rcases h.2 with ⟨h1, rfl⟩ | ⟨g, off, cap', cur, h1, hb, hg, hn, hc, hs, hx⟩
  · exact ⟨⟨h.1, fun k hk => absurd hk (by omega)⟩, fun _ => rfl⟩
  · simp only [Value.slice.injEq, true_and] at h1
    obtain ⟨rfl, rfl⟩ := h1
    refine ⟨⟨h.1, fun k hk => ⟨g, off, rfl, hg.lt, fun j hj => ?_⟩⟩, fun e => by simp at e⟩
    have hkj : k * size + j < n * size := by
      have : (k + 1) * size ≤ n * size := Nat.mul_le_mul_right _ (by omega)
      rw [Nat.succ_mul] at this
      omega
    have hns : n * size ≤ cap * size := Nat.mul_le_mul_right _ hn
    rw [hg.cell, ← hx]
    simp only [List.getD, List.getElem?_take, List.getElem?_drop, if_pos hkj]
    have hlt : off + (k * size + j) < cur.size := by omega
    simp [hlt]
theorem OwnM.free {A : Addr} {cap : Nat} (h : OwnM w base e size (.slice (some A) n cap) n xs) : ∃ g off, A = ⟨g, off, none⟩ ∧ base ≤ g ∧ g < w.heap.size ∧ ∀ j, w.frozen? ⟨g, j, none⟩ = false := by
  rcases h.2 with ⟨h1, rfl⟩ | ⟨g, off, cap', cur, h1, hb, hg, hn, hc, hs, hx⟩
  · simp at h1
  · simp only [Value.slice.injEq, true_and, Option.some.injEq] at h1
    obtain ⟨rfl, rfl⟩ := h1
    exact ⟨g, off, rfl, hb, hg.lt, hg.frozen⟩
/-- From the m-th element on. -/
theorem OwnM.suf {b off cap : Nat} (h : OwnM w base e size (.slice (some ⟨b, off, none⟩) n cap) n xs) {m : Nat} (hm : m ≤ n) : OwnM w base e size (.slice (some ⟨b, off + m * size, none⟩) (n - m) (cap - m)) (n - m) (xs.drop (m * size)) := by
  rcases h.2 with ⟨h1, rfl⟩ | ⟨g, off', cap', cur, h1, hb, hg, hn, hc, hs, hx⟩
  · simp at h1
  · simp only [Value.slice.injEq, true_and, Option.some.injEq, Addr.mk.injEq, and_true] at h1
    obtain ⟨⟨rfl, rfl⟩, rfl⟩ := h1
    have e1 : (n - m) * size = n * size - m * size := Nat.sub_mul _ _ _
    have e2 : (cap - m) * size = cap * size - m * size := Nat.sub_mul _ _ _
    have e3 : m * size ≤ cap * size := Nat.mul_le_mul_right _ (by omega)
    refine ⟨by rw [List.length_drop, h.1, e1], .inr ⟨b, off + m * size, cap - m, cur, rfl, hb, hg, by omega, by omega, by omega, ?_⟩⟩
    rw [← hx, e1, List.drop_take, List.drop_drop]
/-- The same at its old address, where nothing is left of its room. -/
theorem OwnM.emp {b off cap : Nat} (h : OwnM w base e size (.slice (some ⟨b, off, none⟩) n cap) n xs) : OwnM w base e size (.slice (some ⟨b, off, none⟩) 0 0) 0 [] := by
  rcases h.2 with ⟨h1, rfl⟩ | ⟨g, off', cap', cur, h1, hb, hg, hn, hc, hs, hx⟩
  · simp at h1
  · simp only [Value.slice.injEq, true_and, Option.some.injEq, Addr.mk.injEq, and_true] at h1
    obtain ⟨⟨rfl, rfl⟩, rfl⟩ := h1
    exact ⟨by simp, .inr ⟨b, off, 0, cur, rfl, hb, hg, Nat.le_refl _, Nat.zero_le _, by omega, by simp⟩⟩
/-- A cell stored. -/
theorem OwnM.put {b off cap : Nat} (h : OwnM w base e size (.slice (some ⟨b, off, none⟩) n cap) n xs) (j : Nat) (hj : j < n * size) (u : Value) : OwnM (w.setCell ⟨b, off + j, none⟩ u) base e size (.slice (some ⟨b, off, none⟩) n cap) n (xs.set j u) := by
  rcases h.2 with ⟨h1, rfl⟩ | ⟨g, off', cap', cur, h1, hb, hg, hn, hc, hs, hx⟩
  · simp at h1
  · simp only [Value.slice.injEq, true_and, Option.some.injEq, Addr.mk.injEq, and_true] at h1
    obtain ⟨⟨rfl, rfl⟩, rfl⟩ := h1
    refine ⟨by rw [List.length_set]; exact h.1, .inr ⟨b, off, cap, _, rfl, hb, hg.set_ _ _, hn, hc, by simpa using hs, ?_⟩⟩
    rw [← hx, Array.toList_setIfInBounds]
    apply List.ext_getElem?
    intro i
    simp only [List.getElem?_take, List.getElem?_drop, List.getElem?_set, List.length_take, List.length_drop]
    have hns : n * size ≤ cap * size := Nat.mul_le_mul_right _ hn
    by_cases hi : i < n * size
    · rw [if_pos hi]
      by_cases hij : j = i
      · subst hij
        have hc' : off + j < cur.toList.length := by simp; omega
        rw [if_pos rfl, if_pos rfl, if_pos hc', if_pos (by simp; omega)]
      · rw [if_neg (by omega), if_neg hij, if_pos hi]
    · rw [if_neg hi]
      by_cases hij : j = i
      · omega
      · rw [if_neg hij, if_neg hi]
end
section
variable {P : Program} (w : World)
theorem run_append_room_mid (t ty e : TypeId) (i : TypeInfo) (ht : P.underlying t = some (.slice e)) (hi : P.info? e = some i)
    (g off sLen sCap : Nat) (cur : Array Value) (hg : Blk w g e cur)
    (a : Addr) (m c : Nat) (news : List Value) (hl : news.length = m * i.size) (hnews : ∀ j u, news[j]? = some u → w.cell? (a.add j) = some u) (h1 : ∀ u ∈ news, u.oneCell' = true)
    (hroom : sLen + m ≤ sCap) (hfit : off + sLen * i.size + news.length ≤ cur.size) :
    (Builtin.append_ #[t, t] ty #[.slice (some ⟨g, off, none⟩) sLen sCap, .slice (some a) m c]).run P w =
      .ok (.slice (some ⟨g, off, none⟩) (sLen + m) sCap) (w.setRow g (cur.toList.take (off + sLen * i.size) ++ news ++ cur.toList.drop (off + sLen * i.size + news.length)).toArray) := by
  have hf := run_firstCells_some (P := P) w i.size m a m c news hl hnews
  have hst := run_storeCells_at P g (off + sLen * i.size) e news 0 cur w hg (by simpa using hfit) h1
  simp only [Nat.add_zero] at hst
  simp [Builtin.append_, run_underlying ht, sizeOf, typeInfo, hi, Builtin.lenOf, hroom, hf, addr_add, hst]
theorem run_append_mid (base : Nat) (t ty e : TypeId) (i : TypeInfo) (z : Value) (size bytes : Nat) (ht : P.underlying t = some (.slice e)) (hi : P.info? e = some i) (hz : i.zero = some z)
    (hsize : i.size = size) (hby : i.bytes = bytes) (hzs : z.cells.size = size) (hsz : 0 < size)
    (v : Value) (n : Nat) (xs : List Value) (hown : OwnM w base e size v n xs)
    (A : Option Addr) (m c : Nat) (news : List Value) (hr : RdV w size A m news) (h1 : ∀ u ∈ news, u.oneCell' = true)
    (h63 : n + m ≤ maxLen) (hbytes : (n + m) * bytes ≤ 140737488355328) (hbase : base ≤ w.heap.size) (hA : A = none → m = 0) :
    ∃ v' w', (Builtin.append_ #[t, t] ty #[v, .slice A m c]).run P w = .ok v' w' ∧ OwnM w' base e size v' (n + m) (xs ++ news) ∧ w.grownBy w' v.ownBlock ∧
      (v'.ownBlock = v.ownBlock ∨ v'.ownBlock = some w.heap.size) := by
  rcases hown.2 with ⟨rfl, rfl⟩ | ⟨g, off, cap, cur, rfl, hb, hg, hn, hc, hs, hx⟩
  · obtain rfl : xs = [] := List.eq_nil_of_length_eq_zero (by simpa using hown.1)
    obtain ⟨v', w', r1, r2, r3, r4⟩ := run_append_any (P := P) w base t ty e i z size bytes ht hi hz hsize hby hzs hsz (.slice none 0 0) 0 [] (World.ownsRow_nil _ _ _ _) A m c news hr h1 h63 hbytes hbase hA
    exact ⟨v', w', r1, mid_of_own r2, r3, r4⟩
  · subst hsize
    subst hby
    have hlen : (xs ++ news).length = (n + m) * i.size := by rw [List.length_append, hown.1, hr.1, Nat.add_mul]
    have hns : n * i.size ≤ cap * i.size := Nat.mul_le_mul_right _ hn
    rcases Nat.eq_zero_or_pos m with h0 | h0
    · subst h0
      obtain rfl : news = [] := List.eq_nil_of_length_eq_zero (by simpa using hr.1)
      refine ⟨_, w, ?_, by simpa using hown, grown_refl w _, .inl rfl⟩
      cases A with
      | none => simp [Builtin.append_, run_underlying ht, sizeOf, typeInfo, hi, Builtin.lenOf, Builtin.firstCells, hn, storeCells]
      | some a => simp [Builtin.append_, run_underlying ht, sizeOf, typeInfo, hi, Builtin.lenOf, Builtin.firstCells, hn, storeCells, loadCells, loadCellsFrom]
    · obtain ⟨b, o, rfl, hbl, hcells⟩ := rd_cells w hsz hr h0
      by_cases hroom : n + m ≤ cap
      · have hfit : off + n * i.size + news.length ≤ cur.size := by
          rw [hr.1, Nat.add_assoc, ← Nat.add_mul]
          exact Nat.le_trans (Nat.add_le_add_left (Nat.mul_le_mul_right _ hroom) _) hs
        have hrun := run_append_room_mid (P := P) w t ty e i ht hi g off n cap cur hg ⟨b, o, none⟩ m c news hr.1 hcells h1 hroom hfit
        refine ⟨_, _, hrun, ⟨hlen, .inr ⟨g, off, cap, _, rfl, hb, setRow_heap w g cur _ e _ hg, hroom, hc, ?_, ?_⟩⟩, ⟨rfl, rfl, rfl, by simp, fun k _ hk => setRow_other w g k _ (fun e => hk (by simp [Value.ownBlock, e]))⟩, .inl rfl⟩
        · simp only [List.size_toArray, List.length_append, List.length_take, List.length_drop, Array.length_toList]
          omega
        · have hxl : xs.length = n * i.size := hown.1
          have e1 : cur.toList.take (off + n * i.size) = cur.toList.take off ++ xs := by
            rw [← hx, List.take_add]
          have e2 : (cur.toList.take off).length = off := by simp; omega
          rw [e1, List.append_assoc, List.append_assoc, List.drop_append_of_le_length (by omega), List.drop_of_length_le (by omega), List.nil_append, ← List.append_assoc, ← hlen]
          exact List.take_left
      · have holds : ∀ j u, xs[j]? = some u → w.cell? ((⟨g, off, none⟩ : Addr).add j) = some u := by
          intro j u hu
          rw [addr_add, hg.cell, ← hu, ← hx]
          have hj : j < n * i.size := by rw [← hown.1]; exact (List.getElem?_eq_some_iff.1 hu).1
          simp [List.getElem?_take, hj]
        have hr' := run_append_grow (P := P) w t ty e i z ht hi hz ⟨g, off, none⟩ n cap xs hown.1 holds ⟨b, o, none⟩ m c news hr.1 hcells (by omega) (by simp only [maxLen] at h63; omega) (growslice_fits (by omega) hbytes)
        refine ⟨_, _, hr', ⟨hlen, .inr ⟨w.heap.size, 0, grownCap w (n + m) cap e, _, rfl, hbase, heap_alloc_new w.drew _, grownCap_ge w (n + m) cap e, grownCap_le_maxLen w (n + m) cap e h63, ?_, ?_⟩⟩, ⟨rfl, rfl, rfl, by simp, fun k hk _ => Below.heap_alloc w.drew _ k hk⟩, .inr rfl⟩
        · have hge := grownCap_ge w (n + m) cap e
          simp only [Array.size_append, List.size_toArray, size_zeroCells, hzs, hown.1, hr.1, ← Nat.add_mul]
          rw [Nat.zero_add]
          exact Nat.le_of_eq (by congr 1; omega)
        · simp only [Array.toList_append, List.append_assoc, List.drop_zero]
          rw [← List.append_assoc, ← hlen]
          exact List.take_left
theorem wpList_append_mid {ops : Array Oper} {rest : List Oper} {o : Oper} {a : Act} {Q : Exit → Act → World → Prop} (hgd : o.guard = none) (s x : Operand) (t : TypeId)
    (ho : o.op = .call { callee := .builtin .append, args := #[s, x], argTypes := #[t, t] })
    (base : Nat) (e : TypeId) (i : TypeInfo) (z : Value) (size bytes : Nat) (ht : P.underlying t = some (.slice e)) (hi : P.info? e = some i) (hz : i.zero = some z)
    (hsize : i.size = size) (hby : i.bytes = bytes) (hzs : z.cells.size = size) (hsz : 0 < size)
    (v : Value) (n : Nat) (xs : List Value) (hs : a.eval s = v) (hown : OwnM w base e size v n xs)
    (A : Option Addr) (m c : Nat) (news : List Value) (hx : a.eval x = .slice A m c) (hr : RdV w size A m news) (h1 : ∀ u ∈ news, u.oneCell' = true)
    (h63 : n + m ≤ maxLen) (hbytes : (n + m) * bytes ≤ 140737488355328) (hbase : base ≤ w.heap.size) (hA : A = none → m = 0)
    (h : ∀ v' w', OwnM w' base e size v' (n + m) (xs ++ news) → w.grownBy w' v.ownBlock → (v'.ownBlock = v.ownBlock ∨ v'.ownBlock = some w.heap.size) → wpList P ops Q rest (a.put o.dst v') w') : wpList P ops Q (o :: rest) a w := by
  refine wpList_plain hgd fun K hK => ?_
  obtain ⟨v', w', hrun, h2, h3, h4⟩ := run_append_mid (P := P) w base t o.type e i z size bytes ht hi hz hsize hby hzs hsz v n xs hown A m c news hr h1 h63 hbytes hbase hA
  unfold Oper.wp execOp
  simp only [ho, resolve, invoke, builtin, Sem.run_bind, Sem.run_pure, Result.andThen_ok, List.map_toArray, List.map_cons, List.map_nil, hs, hx, hrun]
  exact hK _ _ (h v' w' h2 h3 h4)
end
end Go.Proofs.YtjijmbpgfabgcaaDoor
namespace Go.Proofs.YtjijmbpgfabgcaaDoor
open Go.RowKit
set_option linter.unusedVariables false
set_option linter.unusedSimpArgs false

def Typ (w : World) (v : Value) : Prop := ∀ a n c, v = .slice (some a) n c → a.spot = none ∧ ∃ cs, Blk w a.block 5 cs ∧ a.off + c ≤ cs.size
def RdT (w : World) (v : Value) (l : List Int) : Prop := Rd w .u8 v l ∧ Typ w v
theorem typ_nil (w : World) (n c : Nat) : Typ w (.slice none n c) := fun a n c e => by simp at e
theorem RdT.nil (w : World) : RdT w (.slice none 0 0) [] := ⟨Rd.nil _ _, typ_nil _ _ _⟩
section
variable {w w' : World} {v V : Value} {l : List Int} {g : Nat} {t : TypeId} {cs : Array Value} {row : Option Nat}
theorem RdT.form (h : RdT w v l) : ∃ A cap, v = .slice A l.length cap := h.1.form
/-- Its form, the block known. -/
theorem RdT.shape (h : RdT w v l) : (∃ cap, v = .slice none 0 cap ∧ l = []) ∨ ∃ b off cap cs, v = .slice (some ⟨b, off, none⟩) l.length cap ∧ Blk w b 5 cs ∧ off + cap ≤ cs.size ∧ l.length ≤ cap ∧ cap ≤ maxLen := by
  obtain ⟨⟨A, cap, rfl, h1, h2, h3, h4⟩, hT⟩ := h
  rcases A with _ | ⟨b, off, sp⟩
  · have := h3 rfl
    subst this
    exact .inl ⟨cap, rfl, rfl⟩
  · obtain ⟨e, cs, k1, k2⟩ := hT _ _ _ rfl
    simp only at e k1 k2
    subst e
    exact .inr ⟨b, off, cap, cs, rfl, k1, k2, h1, h2⟩
theorem RdT.olt (h : RdT w v l) : ∀ b, v.ownBlock = some b → b < w.heap.size := by
  intro b hb
  rcases h.shape with ⟨cap, rfl, _⟩ | ⟨b', off, cap, cs, rfl, k1, _⟩
  · simp [Value.ownBlock] at hb
  · simp only [Value.ownBlock, Option.some.injEq] at hb
    subst hb
    exact k1.lt
theorem typ_kept (h : Typ w v) (hb : w.grownBy w' row) (hr : ∀ b, v.ownBlock = some b → some b ≠ row) : Typ w' v := fun a n c e => by
  obtain ⟨h0, cs, h1, h2⟩ := h a n c e
  exact ⟨h0, cs, h1.grown hb (hr _ (by rw [e]; rfl)), h2⟩
theorem RdT.kept (h : RdT w v l) (hb : w.grownBy w' row) (hr : ∀ b, v.ownBlock = some b → some b ≠ row) : RdT w' v l := by
  have hT := typ_kept h.2 hb hr
  obtain ⟨⟨A, cap, rfl, h1, h2, h3, h4⟩, _⟩ := h
  refine ⟨⟨A, cap, rfl, h1, h2, h3, fun k hk => ?_⟩, hT⟩
  obtain ⟨b, off, rfl, hl, hc⟩ := h4 k hk
  refine ⟨b, off, rfl, Nat.lt_of_lt_of_le hl hb.size, fun j hj => ?_⟩
  have := hb.block b hl (hr b rfl)
  rw [← hc j hj]
  simp only [World.cell?, this]
theorem RdT.below (h : RdT w v l) (hb : Below w.heap.size w w') : RdT w' v l := h.kept (grown_below hb none) (fun _ _ => by simp)
theorem RdT.alloc (h : RdT w v l) (o : Obj) : RdT (w.alloc o) v l := h.below ((Below.refl _ _).alloc (Nat.le_refl _) o)
theorem RdT.drewN (h : RdT w v l) (n : Nat) : RdT (w.drewN n) v l := h
theorem RdT.drew (h : RdT w v l) : RdT w.drew v l := h
theorem RdT.ne (h : RdT w v l) (hg : Blk w g t cs) (hn : t ≠ 5) : v.ownBlock ≠ some g := by
  intro e
  rcases h.shape with ⟨cap, rfl, _⟩ | ⟨b', off, cap, cs, rfl, k1, _⟩
  · simp [Value.ownBlock] at e
  · simp only [Value.ownBlock, Option.some.injEq] at e
    exact k1.ne_ hg (Ne.symm hn) e
theorem rdt_grown (h : RdT w v l) (hg : Blk w g t cs) (hn : t ≠ 5) (hb : w.grownBy w' (some g)) : RdT w' v l := h.kept hb (fun b e => fun e' => h.ne hg hn (by rw [e, e']))
theorem rdt_set (h : RdT w v l) (hg : Blk w g t cs) (hn : t ≠ 5) (i : Nat) (u : Value) : RdT (w.setCell ⟨g, i, none⟩ u) v l := rdt_grown h hg hn (grown_set (grown_refl w _) i u)
theorem RdT.suf {b off n cap : Nat} (h : RdT w (.slice (some ⟨b, off, none⟩) n cap) l) {m : Nat} (hm : m ≤ l.length) : RdT w (.slice (some ⟨b, off + m, none⟩) (l.length - m) (cap - m)) (l.drop m) :=
  ⟨h.1.suf hm, fun a n' c' e => by
    simp only [Value.slice.injEq, Option.some.injEq] at e
    obtain ⟨_, cs, h1, h2⟩ := h.2 _ _ _ rfl
    obtain ⟨_, _, h3, _⟩ := h.1.rdv
    obtain ⟨rfl, rfl, rfl⟩ := e
    exact ⟨rfl, cs, h1, by simp only at h2 ⊢; omega⟩⟩
theorem RdT.pre {A : Option Addr} {n cap : Nat} (h : RdT w (.slice A n cap) l) {m : Nat} (hm : m ≤ l.length) : RdT w (.slice A m cap) (l.take m) :=
  ⟨h.1.pre hm, fun a n' c' e => by
    simp only [Value.slice.injEq] at e
    obtain ⟨rfl, rfl, rfl⟩ := e
    exact h.2 _ n _ rfl⟩
theorem RdT.emp {b off n cap : Nat} (h : RdT w (.slice (some ⟨b, off, none⟩) n cap) l) : RdT w (.slice (some ⟨b, off, none⟩) 0 0) [] :=
  ⟨Rd.emp w .u8 _ 0 (by decide), fun a n' c' e => by
    simp only [Value.slice.injEq, Option.some.injEq] at e
    obtain ⟨_, cs, h1, h2⟩ := h.2 _ _ _ rfl
    obtain ⟨rfl, rfl, rfl⟩ := e
    exact ⟨rfl, cs, h1, by simp only at h2 ⊢; omega⟩⟩
theorem rdt_of_own {base n : Nat} (h : w.ownsRow base 5 1 v n (l.map (Value.int .u8))) : RdT w v l := by
  refine ⟨rd_of_own h, fun a n' c' e => ?_⟩
  rcases h.2 with ⟨rfl, h0⟩ | ⟨g, cap, cur, rfl, hb, hg, hn, hc, hs, _⟩
  · simp at e
  · simp only [Value.slice.injEq, Option.some.injEq] at e
    obtain ⟨rfl, rfl, rfl⟩ := e
    exact ⟨rfl, cur, hg, by simp only; omega⟩
end
end Go.Proofs.YtjijmbpgfabgcaaDoor
namespace Go.Proofs.YtjijmbpgfabgcaaDoor
open Go.RowKit
set_option linter.unusedVariables false
set_option linter.unusedSimpArgs false

/-- Cells put over others. -/
def spl (cur : List Value) (o : Nat) (cs : List Value) : List Value := cur.take o ++ cs ++ cur.drop (o + cs.length)
theorem spl_len {cur : List Value} {o : Nat} {cs : List Value} (h : o + cs.length ≤ cur.length) : (spl cur o cs).length = cur.length := by
  simp [spl]
  omega
theorem grown_setRow (w : World) (g : Nat) (cs : Array Value) : w.grownBy (w.setRow g cs) (some g) :=
  ⟨rfl, rfl, rfl, by simp [World.setRow], fun k _ hk => setRow_other w g k cs (by rintro rfl; exact hk rfl)⟩
theorem Blk.setRow {w : World} {g : Nat} {t : TypeId} {cur cs : Array Value} (h : Blk w g t cur) : Blk (w.setRow g cs) g t cs := setRow_heap w g cur cs t _ h
section
variable {P : Program} {w : World}
/-- copy, elements of so many cells. -/
theorem run_copy_wide (dT sT ty elem : TypeId) (sz g o dLen dCap : Nat) (a : Addr) (sLen sCap : Nat) (cur : List Value) (t : TypeId) (cs : List Value)
    (hu : P.underlying dT = some (.slice elem)) (hs : (P.info? elem).map (·.size) = some sz) (hg : Blk w g t cur.toArray) (hn : cs.length = Nat.min sLen dLen * sz)
    (hsrc : ∀ j v, cs[j]? = some v → w.cell? (a.add j) = some v) (hfit : o + cs.length ≤ cur.length) (h1 : ∀ v ∈ cs, v.oneCell' = true) :
    (Builtin.copy_ #[dT, sT] ty #[.slice (some ⟨g, o, none⟩) dLen dCap, .slice (some a) sLen sCap]).run P w = .ok (goInt (Nat.min sLen dLen)) (w.setRow g (spl cur o cs).toArray) := by
  have hl := run_loadCells_list (P := P) w a cs hsrc
  have hst := run_storeCells_at P g o t cs 0 cur.toArray w hg (by simpa using hfit) h1
  cases hq : P.info? elem with
  | none => simp [hq] at hs
  | some i =>
    have hi : i.size = sz := by simpa [hq] using hs
    simp [Builtin.copy_, run_underlying hu, Builtin.lenOf, Builtin.firstCells, sizeOf, typeInfo, hq, hi, ← hn, hl, hst, spl]
theorem run_clear_wide (T ty elem : TypeId) (g o n c : Nat) (cur : List Value) (t : TypeId) (i : TypeInfo) (z : Value) (hu : P.underlying T = some (.slice elem)) (hi : P.info? elem = some i) (hz : i.zero = some z)
    (h1 : ∀ v ∈ z.cells.toList, v.oneCell' = true) (hg : Blk w g t cur.toArray) (hn : n ≠ 0) (hfit : o + n * z.cells.size ≤ cur.length) :
    (Builtin.clear_ #[T] ty #[.slice (some ⟨g, o, none⟩) n c]).run P w = .ok (.tuple #[]) (w.setRow g (spl cur o (Builtin.zeroCells z.cells n).toList).toArray) := by
  have hlen : (Builtin.zeroCells z.cells n).toList.length = n * z.cells.size := by simp [Builtin.zeroCells]
  have hst := run_storeCells_at P g o t (Builtin.zeroCells z.cells n).toList 0 cur.toArray w hg (by simpa [hlen] using hfit) (by
    intro v hv
    simp only [Builtin.zeroCells, Array.toList_map, List.mem_map] at hv
    obtain ⟨k, hk, rfl⟩ := hv
    simp only [Array.toList_range, List.mem_range] at hk
    have hp : 0 < z.cells.size := Nat.pos_of_ne_zero (by rintro h0; rw [h0] at hk; simp at hk)
    have hkk : k % z.cells.size < z.cells.size := Nat.mod_lt _ hp
    rw [getElem!_pos z.cells _ hkk]
    exact h1 _ (by simp))
  cases n with
  | zero => exact absurd rfl hn
  | succ n => simp [Builtin.clear_, run_underlying hu, zeroValue, typeInfo, hi, hz, hst, spl, hlen]
theorem run_clear_none (T ty elem : TypeId) (a : Option Addr) (c : Nat) (hu : P.underlying T = some (.slice elem)) : (Builtin.clear_ #[T] ty #[.slice a 0 c]).run P w = .ok (.tuple #[]) w := by
  cases a <;> simp [Builtin.clear_, run_underlying hu]

theorem wp_copy_w {o : Oper} {a : Act} {K : Act → World → Prop} {Q : Exit → Act → World → Prop} (d s : Operand) (t t' : TypeId)
    (ho : o.op = .call { callee := .builtin .copy, args := #[d, s], argTypes := #[t, t'] }) (v u : Value) (hd : a.eval d = v) (hs : a.eval s = u) {v' : Value} {w' : World}
    (hr : (Builtin.copy_ #[t, t'] o.type #[v, u]).run P w = .ok v' w') (h : K (a.put o.dst v') w') : o.wp P a w K Q := by
  unfold Oper.wp execOp
  simp only [ho, resolve, invoke, builtin, Sem.run_bind, Sem.run_pure, Result.andThen_ok, List.map_toArray, List.map_cons, List.map_nil, hd, hs, hr]
  exact h
theorem wp_clear_w {o : Oper} {a : Act} {K : Act → World → Prop} {Q : Exit → Act → World → Prop} (d : Operand) (t : TypeId)
    (ho : o.op = .call { callee := .builtin .clear, args := #[d], argTypes := #[t] }) (v : Value) (hd : a.eval d = v) {v' : Value} {w' : World}
    (hr : (Builtin.clear_ #[t] o.type #[v]).run P w = .ok v' w') (h : K (a.put o.dst v') w') : o.wp P a w K Q := by
  unfold Oper.wp execOp
  simp only [ho, resolve, invoke, builtin, Sem.run_bind, Sem.run_pure, Result.andThen_ok, List.map_toArray, List.map_cons, List.map_nil, hd, hr]
  exact h
theorem wp_append_w {o : Oper} {a : Act} {K : Act → World → Prop} {Q : Exit → Act → World → Prop} (d s : Operand) (t t' : TypeId)
    (ho : o.op = .call { callee := .builtin .append, args := #[d, s], argTypes := #[t, t'] }) (v u : Value) (hd : a.eval d = v) (hs : a.eval s = u) {v' : Value} {w' : World}
    (hr : (Builtin.append_ #[t, t'] o.type #[v, u]).run P w = .ok v' w') (h : K (a.put o.dst v') w') : o.wp P a w K Q := by
  unfold Oper.wp execOp
  simp only [ho, resolve, invoke, builtin, Sem.run_bind, Sem.run_pure, Result.andThen_ok, List.map_toArray, List.map_cons, List.map_nil, hd, hs, hr]
  exact h
section
variable {ops : Array Oper} {rest : List Oper} {o : Oper} {a : Act} {Q : Exit → Act → World → Prop} {K : Act → World → Prop} {E : Prop}
/-- copy in the walk: into the block g, which lies whole at hand. -/
theorem wpList_copy_w (hgd : o.guard = none) (d s : Operand) (t t' : TypeId) (ho : o.op = .call { callee := .builtin .copy, args := #[d, s], argTypes := #[t, t'] })
    (elem : TypeId) (sz : Nat) (hu : P.underlying t = some (.slice elem)) (hz : (P.info? elem).map (·.size) = some sz) (g off dLen dCap : Nat) (ad : Addr) (sLen sCap : Nat) (cur : List Value) (T : TypeId) (cs : List Value)
    (hd : a.eval d = .slice (some ⟨g, off, none⟩) dLen dCap) (hs : a.eval s = .slice (some ad) sLen sCap) (hg : Blk w g T cur.toArray) (hn : cs.length = Nat.min sLen dLen * sz)
    (hsrc : ∀ j v, cs[j]? = some v → w.cell? (ad.add j) = some v) (hfit : off + cs.length ≤ cur.length) (h1 : ∀ v ∈ cs, v.oneCell' = true)
    (h : ∀ w', Blk w' g T (spl cur off cs).toArray → w.grownBy w' (some g) → wpList P ops Q rest (a.put o.dst (goInt (Nat.min sLen dLen))) w') : wpList P ops Q (o :: rest) a w :=
  wpList_plain hgd fun _ hK => wp_copy_w d s t t' ho _ _ hd hs (run_copy_wide t t' o.type elem sz g off dLen dCap ad sLen sCap cur T cs hu hz hg hn hsrc hfit h1) (hK _ _ (h _ hg.setRow (grown_setRow w g _)))
theorem step_copy_w (hgd : o.guard = none) (d s : Operand) (t t' : TypeId) (ho : o.op = .call { callee := .builtin .copy, args := #[d, s], argTypes := #[t, t'] })
    (elem : TypeId) (sz : Nat) (hu : P.underlying t = some (.slice elem)) (hz : (P.info? elem).map (·.size) = some sz) (g off dLen dCap : Nat) (ad : Addr) (sLen sCap : Nat) (cur : List Value) (T : TypeId) (cs : List Value)
    (hd : a.eval d = .slice (some ⟨g, off, none⟩) dLen dCap) (hs : a.eval s = .slice (some ad) sLen sCap) (hg : Blk w g T cur.toArray) (hn : cs.length = Nat.min sLen dLen * sz)
    (hsrc : ∀ j v, cs[j]? = some v → w.cell? (ad.add j) = some v) (hfit : off + cs.length ≤ cur.length) (h1 : ∀ v ∈ cs, v.oneCell' = true)
    (h : ∀ w', Blk w' g T (spl cur off cs).toArray → w.grownBy w' (some g) → K (a.put o.dst (goInt (Nat.min sLen dLen))) w') :
    if Region.wanted o (yielded ops a.tmps) = true then Oper.wp P o a w K Q else E := by
  have hw : Region.wanted o (yielded ops a.tmps) = true := by simp [Region.wanted, hgd]
  rw [if_pos hw]
  exact wp_copy_w d s t t' ho _ _ hd hs (run_copy_wide t t' o.type elem sz g off dLen dCap ad sLen sCap cur T cs hu hz hg hn hsrc hfit h1) (h _ hg.setRow (grown_setRow w g _))
theorem wpList_clear_w (hgd : o.guard = none) (d : Operand) (t : TypeId) (ho : o.op = .call { callee := .builtin .clear, args := #[d], argTypes := #[t] })
    (elem : TypeId) (i : TypeInfo) (z : Value) (hu : P.underlying t = some (.slice elem)) (hi : P.info? elem = some i) (hz : i.zero = some z) (h1 : ∀ v ∈ z.cells.toList, v.oneCell' = true) (g off n c : Nat) (cur : List Value) (T : TypeId)
    (hd : a.eval d = .slice (some ⟨g, off, none⟩) n c) (hg : Blk w g T cur.toArray) (hn : n ≠ 0) (hfit : off + n * z.cells.size ≤ cur.length)
    (h : ∀ w', Blk w' g T (spl cur off (Builtin.zeroCells z.cells n).toList).toArray → w.grownBy w' (some g) → wpList P ops Q rest (a.put o.dst (.tuple #[])) w') : wpList P ops Q (o :: rest) a w :=
  wpList_plain hgd fun _ hK => wp_clear_w d t ho _ hd (run_clear_wide t o.type elem g off n c cur T i z hu hi hz h1 hg hn hfit) (hK _ _ (h _ hg.setRow (grown_setRow w g _)))
theorem wpList_clear_no (hgd : o.guard = none) (d : Operand) (t : TypeId) (ho : o.op = .call { callee := .builtin .clear, args := #[d], argTypes := #[t] })
    (elem : TypeId) (hu : P.underlying t = some (.slice elem)) (A : Option Addr) (c : Nat) (hd : a.eval d = .slice A 0 c) (h : wpList P ops Q rest (a.put o.dst (.tuple #[])) w) : wpList P ops Q (o :: rest) a w :=
  wpList_plain hgd fun _ hK => wp_clear_w d t ho _ hd (run_clear_none t o.type elem A c hu) (hK _ _ h)
/-- append to a beginning of the block g, where there is room. -/
theorem wpList_append_w (hgd : o.guard = none) (d s : Operand) (t : TypeId) (ho : o.op = .call { callee := .builtin .append, args := #[d, s], argTypes := #[t, t] })
    (elem : TypeId) (i : TypeInfo) (sz : Nat) (hu : P.underlying t = some (.slice elem)) (hi : P.info? elem = some i) (hz : i.size = sz) (g sLen sCap : Nat) (ad : Addr) (m c : Nat) (cur : List Value) (cs : List Value)
    (hd : a.eval d = .slice (some ⟨g, 0, none⟩) sLen sCap) (hs : a.eval s = .slice (some ad) m c) (hg : Blk w g elem cur.toArray) (hn : cs.length = m * sz)
    (hsrc : ∀ j v, cs[j]? = some v → w.cell? (ad.add j) = some v) (hroom : sLen + m ≤ sCap) (hfit : sLen * sz + cs.length ≤ cur.length) (h1 : ∀ v ∈ cs, v.oneCell' = true)
    (h : ∀ w', Blk w' g elem (spl cur (sLen * sz) cs).toArray → w.grownBy w' (some g) → wpList P ops Q rest (a.put o.dst (.slice (some ⟨g, 0, none⟩) (sLen + m) sCap)) w') : wpList P ops Q (o :: rest) a w := by
  subst hz
  refine wpList_plain hgd fun _ hK => wp_append_w d s t t ho _ _ hd hs (run_append_room w t o.type elem i hu hi g sLen sCap cur.toArray hg ad m c cs hn hsrc h1 hroom (by simpa using hfit)) (hK _ _ (h _ ?_ ?_))
  · have := hg.setRow (cs := (spl cur (sLen * i.size) cs).toArray)
    simpa [spl] using this
  · exact grown_setRow w g _
end
end
end Go.Proofs.YtjijmbpgfabgcaaDoor
