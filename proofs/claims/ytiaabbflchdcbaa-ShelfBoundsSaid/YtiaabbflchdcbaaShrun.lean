/-
  Run. No condition.
-/
import Derived.Test.YtiaabbflchdcbaaSolw
import Derived.Great.BuildSlice
import Derived.Deep.CutBlock
namespace Go.Proofs.Ytiaabbflchdcbaa
open Go.RowKit
set_option linter.unusedVariables false
set_option linter.unusedSimpArgs false

theorem yieldsIf_mlen {P : Program} {ops : Array Oper} {o : Oper} {a : Act} {S : World → Prop} (hw : Region.wanted o (yielded ops a.tmps) = true) (t : TypeId) (m : Operand) (hop : o.op = Op.call { callee := Callee.builtin Builtin.len, args := #[m], argTypes := #[t] }) (mv : Value) (hm : a.eval m = mv) (v : Value)
    (hS : ∀ w, S w → (Builtin.len_ #[t] o.type #[mv]).run P w = .ok v w) : YieldsIf P ops S o v a :=
  .inl ⟨hw, fun w hw' => by simp [execOp, hop, resolve, invoke, builtin, hm, hS w hw', Result.andThen]⟩
/-- So many, one behind the other. -/
def pcol (s : PS) (l : List Int) (g n : Int) : Nat → Option (List En)
  | 0 => some []
  | k + 1 => (pcol s l g n k).bind fun L => (pget s l g (n + k)).map fun y => L ++ [y]
def prun (s : PS) (l : List Int) (g n g' n' : Int) : Option (List En) := if g ≠ g' ∨ n' < n ∨ (s.E.length : Int) ≤ n' - n then none else pcol s l g n (n' - n + 1).toNat
def oc5 (y : En × Value) : List Value := [.int .u64 y.1.g, .int .u64 y.1.n, .int .u8 y.1.p, .bool false, y.2]
def flat5 (L : List (En × Value)) : List Value := L.flatMap oc5
theorem flat5_app (A B : List (En × Value)) : flat5 (A ++ B) = flat5 A ++ flat5 B := by simp [flat5]
/-- A row of objects. -/
structure OW (w : World) (B : Nat) (v : Value) (L : List (En × Value)) : Prop where
  row : w.ownsRow B 35 5 v L.length (flat5 L)
  dat : ∀ y ∈ L, RdT w y.2 y.1.d
theorem OW.below {w w' : World} {B : Nat} {v : Value} {L : List (En × Value)} (h : OW w B v L) (hb : Below w.heap.size w w') : OW w' B v L := ⟨own_same h.row hb, fun y hy => (h.dat y hy).below hb⟩
theorem OW.nil (w : World) (B : Nat) : OW w B (.slice none 0 0) [] := ⟨by simpa [flat5] using World.ownsRow_nil _ _ _ _, fun y hy => by cases hy⟩
theorem rdv_ob {w : World} {b : Nat} {g n p : Int} {f : Bool} {V : Value} (h : Blk w b 35 #[.int .u64 g, .int .u64 n, .int .u8 p, .bool f, V]) : RdV w 5 (some ⟨b, 0, none⟩) 1 [.int .u64 g, .int .u64 n, .int .u8 p, .bool f, V] := by
  refine ⟨rfl, fun k hk => ⟨b, 0, rfl, h.lt, fun j hj => ?_⟩⟩
  have hk0 : k = 0 := by omega
  subst hk0
  rw [Nat.zero_mul, Nat.zero_add, Nat.zero_add, h.cell j]
  match j, hj with
  | 0, _ => rfl
  | 1, _ => rfl
  | 2, _ => rfl
  | 3, _ => rfl
  | 4, _ => rfl
theorem oc5_one (g n p : Int) (A : Option Addr) (m c : Nat) : ∀ u ∈ ([.int .u64 g, .int .u64 n, .int .u8 p, .bool false, .slice A m c] : List Value), u.oneCell' = true := fun u hu => by
  simp only [List.mem_cons, List.not_mem_nil, or_false] at hu
  rcases hu with rfl | rfl | rfl | rfl | rfl <;> rfl
/-- What Run hands back. -/
def RunOut (B : Nat) (w' : World) (o : Option (List En)) (e : Ending) : Prop := match o with
  | none => e = .returned (.tuple #[.slice none 0 0, .bool false])
  | some L => ∃ rv LV, e = .returned (.tuple #[rv, .bool true]) ∧ LV.map (·.1) = L ∧ OW w' B rv LV
def fsum (E : List En) : List Lot → Int
  | [] => 0
  | x :: xs => lsum E x + fsum E xs
theorem fsum_mono (e : En) (E : List En) : ∀ xs, fsum E xs ≤ fsum (e :: E) xs
  | [] => Int.le_refl _
  | x :: xs => by
    have := fsum_mono e E xs
    have h : 0 ≤ e.cost := by unfold En.cost; omega
    rw [fsum, fsum, lsum_cons]
    split <;> omega
theorem fsum_step (e : En) (E : List En) : ∀ xs, e.lot ∈ xs → fsum E xs + 16 ≤ fsum (e :: E) xs
  | [], h => by cases h
  | x :: xs, h => by
    have hc : 16 ≤ e.cost := by unfold En.cost; omega
    rw [fsum, fsum, lsum_cons]
    by_cases hx : e.lot = x
    · rw [if_pos hx]; have := fsum_mono e E xs; omega
    · rw [if_neg hx]
      have := fsum_step e E xs ((List.mem_cons.1 h).resolve_left hx)
      omega
theorem fsum_len (xs : List Lot) : ∀ E : List En, (∀ e ∈ E, e.lot ∈ xs) → (E.length : Int) * 16 ≤ fsum E xs
  | [], _ => by
    have h0 : ∀ ys : List Lot, 0 ≤ fsum [] ys := fun ys => by
      induction ys with
      | nil => exact Int.le_refl _
      | cons y ys ih => rw [fsum]; have := lsum_pos [] y; omega
    simpa using h0 xs
  | e :: E, h => by
    have h1 := fsum_len xs E (fun y hy => h y (by simp [hy]))
    have h2 := fsum_step e E xs (h e (by simp))
    simp only [List.length_cons]
    omega
theorem PS.Ok.elen {room : Int} {s : PS} (h : s.Ok room) : (s.E.length : Int) * 16 ≤ room := by
  have h1 := fsum_len (s.Z.map (·.1)) s.E (fun e he => by
    refine Classical.byContradiction fun hn => ?_
    have h2 := lsum_mem he
    rw [← h.coh, zget_none (fun z hz hx => hn (List.mem_map.2 ⟨z, hz, hx⟩))] at h2
    unfold En.cost at h2
    omega)
  have h3 : ∀ Z : List (Lot × Int), (∀ z ∈ Z, lsum s.E z.1 = z.2) → fsum s.E (Z.map (·.1)) = zsum Z := fun Z => by
    induction Z with
    | nil => intro _; rfl
    | cons z Z ih => intro hz; rw [List.map_cons, fsum, zsum_cons, hz z (by simp), ih (fun y hy => hz y (by simp [hy]))]
  rw [h3 s.Z (fun z hz => by rw [← h.coh]; exact zget_mem h.ndz hz), ← h.sum] at h1
  have := h.fit
  omega
theorem pcol_none {s : PS} {l : List Int} {g n : Int} {k : Nat} (h : pcol s l g n k = none) : ∀ m, k ≤ m → pcol s l g n m = none
  | 0, hm => by obtain rfl : k = 0 := by omega
                exact h
  | m + 1, hm => by
    by_cases e : k = m + 1
    · rw [← e]; exact h
    · rw [pcol, pcol_none h m (by omega)]; rfl
theorem pcol_len {s : PS} {l : List Int} {g n : Int} : ∀ {k : Nat} {L : List En}, pcol s l g n k = some L → L.length = k
  | 0, L, h => by simp [pcol] at h; rw [h]; rfl
  | k + 1, L, h => by
    rw [pcol] at h
    cases e : pcol s l g n k with
    | none => rw [e] at h; cases h
    | some M =>
      rw [e] at h
      simp only [Option.bind_some, Option.map_eq_some_iff] at h
      obtain ⟨y, _, rfl⟩ := h
      rw [List.length_append, pcol_len e]; rfl
theorem RdF.own {w w' : World} {base n size : Nat} {e : TypeId} {v u : Value} {l : List Int} {xs : List Value} (h : RdF w u l) (ho : w.ownsRow base e size v n xs) (hg : w.grownBy w' v.ownBlock) (hne : e ≠ 5) : RdF w' u l := by
  refine h.keep hg.size (fun b cs fr hb => (hg.block b (Array.getElem?_eq_some_iff.1 hb).1 (fun e1 => ?_)).trans hb)
  rcases ho.2 with ⟨rfl, _⟩ | ⟨g', cap, cur, rfl, _, hb', _⟩
  · simp [Value.ownBlock] at e1
  · simp only [Value.ownBlock, Option.some.injEq] at e1
    subst e1
    rw [hb'] at hb
    injection hb with e2
    injection e2 with e3 e4
    exact hne e4
theorem rdt_own {w w' : World} {base n size : Nat} {e : TypeId} {v u : Value} {l : List Int} {xs : List Value} (h : RdT w u l) (ho : w.ownsRow base e size v n xs) (hg : w.grownBy w' v.ownBlock) (hne : e ≠ 5) : RdT w' u l := by
  rcases ho.2 with ⟨rfl, _⟩ | ⟨g', cap, cur, rfl, _, hb', _⟩
  · exact h.below ⟨hg.os, hg.tape, hg.output, hg.size, fun i hi => hg.block i hi (by simp [Value.ownBlock])⟩
  · exact rdt_grown h (show Blk w g' e cur from hb') hne hg
theorem infoOb3 : (Try.prog.info? 35).map (fun i => (i.zero, i.size, i.bytes)) = some (some (.agg #[.int .u64 0, .int .u64 0, .int .u8 0, .bool false, .slice none 0 0]), 5, 48) := by kernel_rfl
set_option maxHeartbeats 4000000 in
set_option maxRecDepth 100000 in
theorem run_group (B sb lb zb tb : Nat) (v : Value) (room g n g2 n2 : Int) (l : List Int) (s : PS) (w : World) (hH : HS w B sb lb zb tb room s) (hv : RdF w v l) (hk : BytesOk l) (hll : l.length ≤ 1000000) (hg : U64 g) (hn : U64 n) (hg2 : U64 g2) (hn2 : U64 n2) (hne : g ≠ g2) :
    Calls Try.prog 17 #[.pointer (some ⟨sb, 0, none⟩), v, .agg #[.int .u64 g, .int .u64 n], .agg #[.int .u64 g2, .int .u64 n2]] w fun e w' => e = .returned (.tuple #[.slice none 0 0, .bool false]) ∧ HS w' B sb lb zb tb room s ∧ Below w.heap.size w w' := by
  have hP0 := (Blk.new w 33 #[.int .u64 g, .int .u64 n]).alloc (.cells #[.int .u64 g2, .int .u64 n2] 33)
  have hQ0 : Blk ((w.alloc (.cells #[.int .u64 g, .int .u64 n] 33)).alloc (.cells #[.int .u64 g2, .int .u64 n2] 33)) (w.heap.size + 1) 33 #[.int .u64 g2, .int .u64 n2] := blk_new_at (by simp)
  have hb0 : Below w.heap.size w ((w.alloc (.cells #[.int .u64 g, .int .u64 n] 33)).alloc (.cells #[.int .u64 g2, .int .u64 n2] 33)) := ((Below.refl w.heap.size w).alloc (Nat.le_refl _) _).alloc (by simp) _
  have hH0 := hH.kept hb0
  have hv0 := hv.below hb0
  obtain ⟨vA, vc, rfl⟩ := hv.1.form
  go_enter Try.func17, Try.ntmps17
  go_upto_region 1 with fail
  refine wp_world (fun wz => HS wz B sb lb zb tb room s ∧ Blk wz w.heap.size 33 #[.int .u64 g, .int .u64 n] ∧ Blk wz (w.heap.size + 1) 33 #[.int .u64 g2, .int .u64 n2] ∧ RdF wz (.slice vA l.length vc) l ∧ Below w.heap.size w wz) ⟨hH0, hP0, hQ0, hv0, hb0⟩ ?_
  clear hH0 hP0 hQ0 hv0 hb0 hH hv
  rintro w1 ⟨hH, hP, hQ, hv, hb⟩
  have a0 : World.cell? w1.drew ⟨w.heap.size, 0, none⟩ = some (.int .u64 g) := hP.cell 0
  have a1 : World.cell? w1.drew ⟨w.heap.size, 1, none⟩ = some (.int .u64 n) := hP.cell 1
  have b0 : World.cell? w1.drew ⟨w.heap.size + 1, 0, none⟩ = some (.int .u64 g2) := hQ.cell 0
  have b1 : World.cell? w1.drew ⟨w.heap.size + 1, 1, none⟩ = some (.int .u64 n2) := hQ.cell 1
  have hHd : HS w1.drew B sb lb zb tb room s := hH.kept (below_drewN (Below.refl _ _) 1)
  obtain ⟨N, hN⟩ : ∃ N : Nat, N = s.E.length := ⟨_, rfl⟩
  have hcl : World.cell? w1.drew ⟨sb, 2, none⟩ = some (.map (some lb)) ∧ (Builtin.len_ #[76] 3 #[.map (some lb)]).run Try.prog w1.drew = .ok (.int .i64 N) w1.drew := by
    obtain ⟨lv, E, hE, hS⟩ := hHd
    refine ⟨hS.blk.cell 2, ?_⟩
    rw [hS.kl.len (t := 76) Try.underlying76, hN, ← hE, List.length_map, List.length_map]
  obtain ⟨c2, hln⟩ := hcl
  have HNE := Lib.hid hN
  clear hN
  have hd : (g == g2) = false := by simpa using hne
  have hdn : (g != g2) = true := by simpa using hne
  clear hne
  refine wp_region_held_drew (S := fun W => World.cell? W ⟨w.heap.size, 0, none⟩ = some (.int .u64 g) ∧ World.cell? W ⟨w.heap.size, 1, none⟩ = some (.int .u64 n) ∧ World.cell? W ⟨w.heap.size + 1, 0, none⟩ = some (.int .u64 g2) ∧ World.cell? W ⟨w.heap.size + 1, 1, none⟩ = some (.int .u64 n2) ∧ World.cell? W ⟨sb, 2, none⟩ = some (.map (some lb)) ∧ (Builtin.len_ #[76] 3 #[.map (some lb)]).run Try.prog W = .ok (.int .i64 N) W) (by kernel_rfl) (by with_reducible exact ⟨a0, a1, b0, b1, c2, hln⟩) (fun _ => ?_)
  refine wpAnyH_take (i := 0) (oi := ({ dst := some 14, op := Op.move (Operand.tmp 0), type := 25, pos := _, after := #[], guard := none } : Oper)) (v := ?_) rfl (by kernel_rfl) (by kernel_rfl) (by kernel_rfl) (fun _ _ _ h => h) (Or.inl ⟨by rfl, ?_⟩) (by with_reducible exact ⟨a0, a1, b0, b1, c2, hln⟩) ?_
  rotate_left
  · intro w hSw
    try dsimp only at hSw
    go_simp
    try with_reducible rfl
  try simp only [Act.put, List.setIfInBounds_toArray, List.set_cons_zero, List.set_cons_succ]
  refine wpAnyH_take (i := 1) (oi := ({ dst := some 15, op := Op.binOp BinOp.eql 25 (Operand.tmp 14) (Operand.const (Value.pointer none)) 25, type := 4, pos := _, after := #[{ on := 0, ground := Ground.data }], guard := none } : Oper)) (v := ?_) rfl (by kernel_rfl) (by kernel_rfl) (by kernel_rfl) (fun _ _ _ h => h) (Or.inl ⟨by rfl, ?_⟩) (by with_reducible exact ⟨a0, a1, b0, b1, c2, hln⟩) ?_
  rotate_left
  · intro w hSw
    try dsimp only at hSw
    go_simp
    try with_reducible rfl
  try simp only [Act.put, List.setIfInBounds_toArray, List.set_cons_zero, List.set_cons_succ]
  refine wpAnyH_take (i := 2) (oi := ({ dst := some 16, op := Op.move (Operand.tmp 15), type := 4, pos := _, after := #[{ on := 1, ground := Ground.data }], guard := none } : Oper)) (v := ?_) rfl (by kernel_rfl) (by kernel_rfl) (by kernel_rfl) (fun _ _ _ h => h) (Or.inl ⟨by rfl, ?_⟩) (by with_reducible exact ⟨a0, a1, b0, b1, c2, hln⟩) ?_
  rotate_left
  · intro w hSw
    try dsimp only at hSw
    go_simp
    try with_reducible rfl
  try simp only [Act.put, List.setIfInBounds_toArray, List.set_cons_zero, List.set_cons_succ]
  refine wpAnyH_take (i := 3) (oi := ({ dst := some 17, op := Op.fieldAddr 33 (Operand.tmp 6) 0, type := 0, pos := _, after := #[{ on := 2, ground := Ground.guard }], guard := some (2, false) } : Oper)) (v := ?_) rfl (by kernel_rfl) (by kernel_rfl) (by kernel_rfl) (fun _ _ _ h => h) (Or.inl ⟨by rfl, ?_⟩) (by with_reducible exact ⟨a0, a1, b0, b1, c2, hln⟩) ?_
  rotate_left
  · intro w hSw
    try dsimp only at hSw
    go_simp
    try with_reducible rfl
  try simp only [Act.put, List.setIfInBounds_toArray, List.set_cons_zero, List.set_cons_succ]
  refine wpAnyH_take (i := 4) (oi := ({ dst := some 18, op := Op.load 31 (Operand.tmp 17), type := 31, pos := _, after := #[{ on := 3, ground := Ground.data }, { on := 2, ground := Ground.guard }], guard := some (2, false) } : Oper)) (v := ?_) rfl (by kernel_rfl) (by kernel_rfl) (by kernel_rfl) (fun _ _ _ h => h) (Or.inl ⟨by rfl, ?_⟩) (by with_reducible exact ⟨a0, a1, b0, b1, c2, hln⟩) ?_
  rotate_left
  · intro w hSw
    try dsimp only at hSw
    go_simp
    try with_reducible rfl
  try simp only [Act.put, List.setIfInBounds_toArray, List.set_cons_zero, List.set_cons_succ]
  refine wpAnyH_take (i := 5) (oi := ({ dst := some 19, op := Op.fieldAddr 33 (Operand.tmp 7) 0, type := 0, pos := _, after := #[{ on := 2, ground := Ground.guard }], guard := some (2, false) } : Oper)) (v := ?_) rfl (by kernel_rfl) (by kernel_rfl) (by kernel_rfl) (fun _ _ _ h => h) (Or.inl ⟨by rfl, ?_⟩) (by with_reducible exact ⟨a0, a1, b0, b1, c2, hln⟩) ?_
  rotate_left
  · intro w hSw
    try dsimp only at hSw
    go_simp
    try with_reducible rfl
  try simp only [Act.put, List.setIfInBounds_toArray, List.set_cons_zero, List.set_cons_succ]
  refine wpAnyH_take (i := 6) (oi := ({ dst := some 20, op := Op.load 31 (Operand.tmp 19), type := 31, pos := _, after := #[{ on := 5, ground := Ground.data }, { on := 2, ground := Ground.guard }], guard := some (2, false) } : Oper)) (v := ?_) rfl (by kernel_rfl) (by kernel_rfl) (by kernel_rfl) (fun _ _ _ h => h) (Or.inl ⟨by rfl, ?_⟩) (by with_reducible exact ⟨a0, a1, b0, b1, c2, hln⟩) ?_
  rotate_left
  · intro w hSw
    try dsimp only at hSw
    go_simp
    try with_reducible rfl
  try simp only [Act.put, List.setIfInBounds_toArray, List.set_cons_zero, List.set_cons_succ]
  refine wpAnyH_take (i := 7) (oi := ({ dst := some 21, op := Op.binOp BinOp.neq 31 (Operand.tmp 18) (Operand.tmp 20) 31, type := 4, pos := _, after := #[{ on := 4, ground := Ground.data }, { on := 6, ground := Ground.data }, { on := 2, ground := Ground.guard }], guard := some (2, false) } : Oper)) (v := ?_) rfl (by kernel_rfl) (by kernel_rfl) (by kernel_rfl) (fun _ _ _ h => h) (Or.inl ⟨by rfl, ?_⟩) (by with_reducible exact ⟨a0, a1, b0, b1, c2, hln⟩) ?_
  rotate_left
  · intro w hSw
    try dsimp only at hSw
    go_simp
    try with_reducible rfl
  try simp only [Act.put, List.setIfInBounds_toArray, List.set_cons_zero, List.set_cons_succ]
  refine wpAnyH_take (i := 8) (oi := ({ dst := some 22, op := Op.pick (Operand.tmp 16) (Operand.const (Value.bool true)) (Operand.tmp 21), type := 4, pos := _, after := #[{ on := 2, ground := Ground.data }, { on := 7, ground := Ground.data }], guard := none } : Oper)) (v := ?_) rfl (by kernel_rfl) (by kernel_rfl) (by kernel_rfl) (fun _ _ _ h => h) (Or.inl ⟨by rfl, ?_⟩) (by with_reducible exact ⟨a0, a1, b0, b1, c2, hln⟩) ?_
  rotate_left
  · intro w hSw
    try dsimp only at hSw
    go_simp
    try with_reducible rfl
  try simp only [Act.put, List.setIfInBounds_toArray, List.set_cons_zero, List.set_cons_succ]
  refine wpAnyH_take (i := 9) (oi := ({ dst := some 23, op := Op.move (Operand.tmp 22), type := 4, pos := _, after := #[{ on := 8, ground := Ground.data }, { on := 2, ground := Ground.chain }], guard := none } : Oper)) (v := ?_) rfl (by kernel_rfl) (by kernel_rfl) (by kernel_rfl) (fun _ _ _ h => h) (Or.inl ⟨by rfl, ?_⟩) (by with_reducible exact ⟨a0, a1, b0, b1, c2, hln⟩) ?_
  rotate_left
  · intro w hSw
    try dsimp only at hSw
    go_simp
    try with_reducible rfl
  try simp only [Act.put, List.setIfInBounds_toArray, List.set_cons_zero, List.set_cons_succ]
  refine wpAnyH_take (i := 10) (oi := ({ dst := some 24, op := Op.fieldAddr 33 (Operand.tmp 6) 1, type := 0, pos := _, after := #[{ on := 9, ground := Ground.guard }], guard := some (9, false) } : Oper)) (v := undef) rfl (by kernel_rfl) (by kernel_rfl) (by kernel_rfl) (fun _ _ _ h => h) (Or.inr ⟨by rfl, rfl⟩) (by with_reducible exact ⟨a0, a1, b0, b1, c2, hln⟩) ?_
  try simp only [Act.put, List.setIfInBounds_toArray, List.set_cons_zero, List.set_cons_succ]
  refine wpAnyH_take (i := 11) (oi := ({ dst := some 25, op := Op.load 31 (Operand.tmp 24), type := 31, pos := _, after := #[{ on := 10, ground := Ground.data }, { on := 9, ground := Ground.guard }], guard := some (9, false) } : Oper)) (v := undef) rfl (by kernel_rfl) (by kernel_rfl) (by kernel_rfl) (fun _ _ _ h => h) (Or.inr ⟨by rfl, rfl⟩) (by with_reducible exact ⟨a0, a1, b0, b1, c2, hln⟩) ?_
  try simp only [Act.put, List.setIfInBounds_toArray, List.set_cons_zero, List.set_cons_succ]
  refine wpAnyH_take (i := 12) (oi := ({ dst := some 26, op := Op.fieldAddr 33 (Operand.tmp 7) 1, type := 0, pos := _, after := #[{ on := 9, ground := Ground.guard }], guard := some (9, false) } : Oper)) (v := undef) rfl (by kernel_rfl) (by kernel_rfl) (by kernel_rfl) (fun _ _ _ h => h) (Or.inr ⟨by rfl, rfl⟩) (by with_reducible exact ⟨a0, a1, b0, b1, c2, hln⟩) ?_
  try simp only [Act.put, List.setIfInBounds_toArray, List.set_cons_zero, List.set_cons_succ]
  refine wpAnyH_take (i := 13) (oi := ({ dst := some 27, op := Op.load 31 (Operand.tmp 26), type := 31, pos := _, after := #[{ on := 12, ground := Ground.data }, { on := 9, ground := Ground.guard }], guard := some (9, false) } : Oper)) (v := undef) rfl (by kernel_rfl) (by kernel_rfl) (by kernel_rfl) (fun _ _ _ h => h) (Or.inr ⟨by rfl, rfl⟩) (by with_reducible exact ⟨a0, a1, b0, b1, c2, hln⟩) ?_
  try simp only [Act.put, List.setIfInBounds_toArray, List.set_cons_zero, List.set_cons_succ]
  refine wpAnyH_take (i := 14) (oi := ({ dst := some 28, op := Op.binOp BinOp.gtr 31 (Operand.tmp 25) (Operand.tmp 27) 31, type := 4, pos := _, after := #[{ on := 11, ground := Ground.data }, { on := 13, ground := Ground.data }, { on := 9, ground := Ground.guard }], guard := some (9, false) } : Oper)) (v := undef) rfl (by kernel_rfl) (by kernel_rfl) (by kernel_rfl) (fun _ _ _ h => h) (Or.inr ⟨by rfl, rfl⟩) (by with_reducible exact ⟨a0, a1, b0, b1, c2, hln⟩) ?_
  try simp only [Act.put, List.setIfInBounds_toArray, List.set_cons_zero, List.set_cons_succ]
  refine wpAnyH_take (i := 15) (oi := ({ dst := some 29, op := Op.pick (Operand.tmp 23) (Operand.const (Value.bool true)) (Operand.tmp 28), type := 4, pos := _, after := #[{ on := 9, ground := Ground.data }, { on := 14, ground := Ground.data }], guard := none } : Oper)) (v := ?_) rfl (by kernel_rfl) (by kernel_rfl) (by kernel_rfl) (fun _ _ _ h => h) (Or.inl ⟨by rfl, ?_⟩) (by with_reducible exact ⟨a0, a1, b0, b1, c2, hln⟩) ?_
  rotate_left
  · intro w hSw
    try dsimp only at hSw
    go_simp
    try with_reducible rfl
  try simp only [Act.put, List.setIfInBounds_toArray, List.set_cons_zero, List.set_cons_succ]
  refine wpAnyH_take (i := 16) (oi := ({ dst := some 30, op := Op.move (Operand.tmp 29), type := 4, pos := _, after := #[{ on := 15, ground := Ground.data }, { on := 9, ground := Ground.chain }], guard := none } : Oper)) (v := ?_) rfl (by kernel_rfl) (by kernel_rfl) (by kernel_rfl) (fun _ _ _ h => h) (Or.inl ⟨by rfl, ?_⟩) (by with_reducible exact ⟨a0, a1, b0, b1, c2, hln⟩) ?_
  rotate_left
  · intro w hSw
    try dsimp only at hSw
    go_simp
    try with_reducible rfl
  try simp only [Act.put, List.setIfInBounds_toArray, List.set_cons_zero, List.set_cons_succ]
  refine wpAnyH_take (i := 17) (oi := ({ dst := some 31, op := Op.fieldAddr 33 (Operand.tmp 7) 1, type := 0, pos := _, after := #[{ on := 16, ground := Ground.guard }], guard := some (16, false) } : Oper)) (v := undef) rfl (by kernel_rfl) (by kernel_rfl) (by kernel_rfl) (fun _ _ _ h => h) (Or.inr ⟨by rfl, rfl⟩) (by with_reducible exact ⟨a0, a1, b0, b1, c2, hln⟩) ?_
  try simp only [Act.put, List.setIfInBounds_toArray, List.set_cons_zero, List.set_cons_succ]
  refine wpAnyH_take (i := 18) (oi := ({ dst := some 32, op := Op.load 31 (Operand.tmp 31), type := 31, pos := _, after := #[{ on := 17, ground := Ground.data }, { on := 16, ground := Ground.guard }], guard := some (16, false) } : Oper)) (v := undef) rfl (by kernel_rfl) (by kernel_rfl) (by kernel_rfl) (fun _ _ _ h => h) (Or.inr ⟨by rfl, rfl⟩) (by with_reducible exact ⟨a0, a1, b0, b1, c2, hln⟩) ?_
  try simp only [Act.put, List.setIfInBounds_toArray, List.set_cons_zero, List.set_cons_succ]
  refine wpAnyH_take (i := 19) (oi := ({ dst := some 33, op := Op.fieldAddr 33 (Operand.tmp 6) 1, type := 0, pos := _, after := #[{ on := 16, ground := Ground.guard }], guard := some (16, false) } : Oper)) (v := undef) rfl (by kernel_rfl) (by kernel_rfl) (by kernel_rfl) (fun _ _ _ h => h) (Or.inr ⟨by rfl, rfl⟩) (by with_reducible exact ⟨a0, a1, b0, b1, c2, hln⟩) ?_
  try simp only [Act.put, List.setIfInBounds_toArray, List.set_cons_zero, List.set_cons_succ]
  refine wpAnyH_take (i := 20) (oi := ({ dst := some 34, op := Op.load 31 (Operand.tmp 33), type := 31, pos := _, after := #[{ on := 19, ground := Ground.data }, { on := 16, ground := Ground.guard }], guard := some (16, false) } : Oper)) (v := undef) rfl (by kernel_rfl) (by kernel_rfl) (by kernel_rfl) (fun _ _ _ h => h) (Or.inr ⟨by rfl, rfl⟩) (by with_reducible exact ⟨a0, a1, b0, b1, c2, hln⟩) ?_
  try simp only [Act.put, List.setIfInBounds_toArray, List.set_cons_zero, List.set_cons_succ]
  refine wpAnyH_take (i := 21) (oi := ({ dst := some 35, op := Op.binOp BinOp.sub 31 (Operand.tmp 32) (Operand.tmp 34) 31, type := 31, pos := _, after := #[{ on := 18, ground := Ground.data }, { on := 20, ground := Ground.data }, { on := 16, ground := Ground.guard }], guard := some (16, false) } : Oper)) (v := undef) rfl (by kernel_rfl) (by kernel_rfl) (by kernel_rfl) (fun _ _ _ h => h) (Or.inr ⟨by rfl, rfl⟩) (by with_reducible exact ⟨a0, a1, b0, b1, c2, hln⟩) ?_
  try simp only [Act.put, List.setIfInBounds_toArray, List.set_cons_zero, List.set_cons_succ]
  refine wpAnyH_take (i := 22) (oi := ({ dst := some 36, op := Op.move (Operand.tmp 0), type := 25, pos := _, after := #[{ on := 16, ground := Ground.guard }], guard := some (16, false) } : Oper)) (v := undef) rfl (by kernel_rfl) (by kernel_rfl) (by kernel_rfl) (fun _ _ _ h => h) (Or.inr ⟨by rfl, rfl⟩) (by with_reducible exact ⟨a0, a1, b0, b1, c2, hln⟩) ?_
  try simp only [Act.put, List.setIfInBounds_toArray, List.set_cons_zero, List.set_cons_succ]
  refine wpAnyH_take (i := 23) (oi := ({ dst := some 37, op := Op.nilCheck (Operand.tmp 36), type := 0, pos := _, after := #[{ on := 22, ground := Ground.data }, { on := 16, ground := Ground.guard }], guard := some (16, false) } : Oper)) (v := undef) rfl (by kernel_rfl) (by kernel_rfl) (by kernel_rfl) (fun _ _ _ h => h) (Or.inr ⟨by rfl, rfl⟩) (by with_reducible exact ⟨a0, a1, b0, b1, c2, hln⟩) ?_
  try simp only [Act.put, List.setIfInBounds_toArray, List.set_cons_zero, List.set_cons_succ]
  refine wpAnyH_take (i := 24) (oi := ({ dst := some 38, op := Op.fieldAddr 81 (Operand.tmp 37) 2, type := 0, pos := _, after := #[{ on := 23, ground := Ground.data }, { on := 16, ground := Ground.guard }], guard := some (16, false) } : Oper)) (v := undef) rfl (by kernel_rfl) (by kernel_rfl) (by kernel_rfl) (fun _ _ _ h => h) (Or.inr ⟨by rfl, rfl⟩) (by with_reducible exact ⟨a0, a1, b0, b1, c2, hln⟩) ?_
  try simp only [Act.put, List.setIfInBounds_toArray, List.set_cons_zero, List.set_cons_succ]
  refine wpAnyH_take (i := 25) (oi := ({ dst := some 39, op := Op.load 76 (Operand.tmp 38), type := 76, pos := _, after := #[{ on := 24, ground := Ground.data }, { on := 16, ground := Ground.guard }], guard := some (16, false) } : Oper)) (v := undef) rfl (by kernel_rfl) (by kernel_rfl) (by kernel_rfl) (fun _ _ _ h => h) (Or.inr ⟨by rfl, rfl⟩) (by with_reducible exact ⟨a0, a1, b0, b1, c2, hln⟩) ?_
  try simp only [Act.put, List.setIfInBounds_toArray, List.set_cons_zero, List.set_cons_succ]
  refine wpAnyH_take (i := 26) (oi := ({ dst := some 40, op := Op.call { callee := Callee.builtin Builtin.len, args := #[Operand.tmp 39], argTypes := #[76] }, type := 3, pos := _, after := #[{ on := 25, ground := Ground.data }, { on := 16, ground := Ground.chain }, { on := 16, ground := Ground.guard }], guard := some (16, false) } : Oper)) (v := undef) rfl (by kernel_rfl) (by kernel_rfl) (by kernel_rfl) (fun _ _ _ h => h) (Or.inr ⟨by rfl, rfl⟩) (by with_reducible exact ⟨a0, a1, b0, b1, c2, hln⟩) ?_
  try simp only [Act.put, List.setIfInBounds_toArray, List.set_cons_zero, List.set_cons_succ]
  refine wpAnyH_take (i := 27) (oi := ({ dst := some 41, op := Op.convert 3 31 (Operand.tmp 40), type := 31, pos := _, after := #[{ on := 26, ground := Ground.data }, { on := 16, ground := Ground.guard }], guard := some (16, false) } : Oper)) (v := undef) rfl (by kernel_rfl) (by kernel_rfl) (by kernel_rfl) (fun _ _ _ h => h) (Or.inr ⟨by rfl, rfl⟩) (by with_reducible exact ⟨a0, a1, b0, b1, c2, hln⟩) ?_
  try simp only [Act.put, List.setIfInBounds_toArray, List.set_cons_zero, List.set_cons_succ]
  refine wpAnyH_take (i := 28) (oi := ({ dst := some 42, op := Op.binOp BinOp.geq 31 (Operand.tmp 35) (Operand.tmp 41) 31, type := 4, pos := _, after := #[{ on := 21, ground := Ground.data }, { on := 27, ground := Ground.data }, { on := 16, ground := Ground.guard }], guard := some (16, false) } : Oper)) (v := undef) rfl (by kernel_rfl) (by kernel_rfl) (by kernel_rfl) (fun _ _ _ h => h) (Or.inr ⟨by rfl, rfl⟩) (by with_reducible exact ⟨a0, a1, b0, b1, c2, hln⟩) ?_
  try simp only [Act.put, List.setIfInBounds_toArray, List.set_cons_zero, List.set_cons_succ]
  refine wpAnyH_take (i := 29) (oi := ({ dst := some 43, op := Op.pick (Operand.tmp 30) (Operand.const (Value.bool true)) (Operand.tmp 42), type := 4, pos := _, after := #[{ on := 16, ground := Ground.data }, { on := 28, ground := Ground.data }], guard := none } : Oper)) (v := ?_) rfl (by kernel_rfl) (by kernel_rfl) (by kernel_rfl) (fun _ _ _ h => h) (Or.inl ⟨by rfl, ?_⟩) (by with_reducible exact ⟨a0, a1, b0, b1, c2, hln⟩) ?_
  rotate_left
  · intro w hSw
    try dsimp only at hSw
    go_simp
    try with_reducible rfl
  try simp only [Act.put, List.setIfInBounds_toArray, List.set_cons_zero, List.set_cons_succ]
  refine wpAnyH_done (by kernel_rfl) ?_ _
  go_wp2_with fail
  refine bodyPost_ret (results_tmp2 rfl _ _ _) rfl ?_
  exact ⟨rfl, hHd, below_drewN hb 1⟩
set_option maxHeartbeats 4000000 in
set_option maxRecDepth 100000 in
theorem run_back (B sb lb zb tb : Nat) (v : Value) (room g n n2 : Int) (l : List Int) (s : PS) (w : World) (hH : HS w B sb lb zb tb room s) (hv : RdF w v l) (hk : BytesOk l) (hll : l.length ≤ 1000000) (hg : U64 g) (hn : U64 n) (hn2 : U64 n2) (hne : n2 < n) :
    Calls Try.prog 17 #[.pointer (some ⟨sb, 0, none⟩), v, .agg #[.int .u64 g, .int .u64 n], .agg #[.int .u64 g, .int .u64 n2]] w fun e w' => e = .returned (.tuple #[.slice none 0 0, .bool false]) ∧ HS w' B sb lb zb tb room s ∧ Below w.heap.size w w' := by
  have hP0 := (Blk.new w 33 #[.int .u64 g, .int .u64 n]).alloc (.cells #[.int .u64 g, .int .u64 n2] 33)
  have hQ0 : Blk ((w.alloc (.cells #[.int .u64 g, .int .u64 n] 33)).alloc (.cells #[.int .u64 g, .int .u64 n2] 33)) (w.heap.size + 1) 33 #[.int .u64 g, .int .u64 n2] := blk_new_at (by simp)
  have hb0 : Below w.heap.size w ((w.alloc (.cells #[.int .u64 g, .int .u64 n] 33)).alloc (.cells #[.int .u64 g, .int .u64 n2] 33)) := ((Below.refl w.heap.size w).alloc (Nat.le_refl _) _).alloc (by simp) _
  have hH0 := hH.kept hb0
  have hv0 := hv.below hb0
  obtain ⟨vA, vc, rfl⟩ := hv.1.form
  go_enter Try.func17, Try.ntmps17
  go_upto_region 1 with fail
  refine wp_world (fun wz => HS wz B sb lb zb tb room s ∧ Blk wz w.heap.size 33 #[.int .u64 g, .int .u64 n] ∧ Blk wz (w.heap.size + 1) 33 #[.int .u64 g, .int .u64 n2] ∧ RdF wz (.slice vA l.length vc) l ∧ Below w.heap.size w wz) ⟨hH0, hP0, hQ0, hv0, hb0⟩ ?_
  clear hH0 hP0 hQ0 hv0 hb0 hH hv
  rintro w1 ⟨hH, hP, hQ, hv, hb⟩
  have a0 : World.cell? w1.drew ⟨w.heap.size, 0, none⟩ = some (.int .u64 g) := hP.cell 0
  have a1 : World.cell? w1.drew ⟨w.heap.size, 1, none⟩ = some (.int .u64 n) := hP.cell 1
  have b0 : World.cell? w1.drew ⟨w.heap.size + 1, 0, none⟩ = some (.int .u64 g) := hQ.cell 0
  have b1 : World.cell? w1.drew ⟨w.heap.size + 1, 1, none⟩ = some (.int .u64 n2) := hQ.cell 1
  have hHd : HS w1.drew B sb lb zb tb room s := hH.kept (below_drewN (Below.refl _ _) 1)
  obtain ⟨N, hN⟩ : ∃ N : Nat, N = s.E.length := ⟨_, rfl⟩
  have hcl : World.cell? w1.drew ⟨sb, 2, none⟩ = some (.map (some lb)) ∧ (Builtin.len_ #[76] 3 #[.map (some lb)]).run Try.prog w1.drew = .ok (.int .i64 N) w1.drew := by
    obtain ⟨lv, E, hE, hS⟩ := hHd
    refine ⟨hS.blk.cell 2, ?_⟩
    rw [hS.kl.len (t := 76) Try.underlying76, hN, ← hE, List.length_map, List.length_map]
  obtain ⟨c2, hln⟩ := hcl
  have HNE := Lib.hid hN
  clear hN
  have hd : (g == g) = true := by simp
  have hdn : (g != g) = false := by simp
  have hd2 : decide (n2 < n) = true := decide_eq_true hne

  refine wp_region_held_drew (S := fun W => World.cell? W ⟨w.heap.size, 0, none⟩ = some (.int .u64 g) ∧ World.cell? W ⟨w.heap.size, 1, none⟩ = some (.int .u64 n) ∧ World.cell? W ⟨w.heap.size + 1, 0, none⟩ = some (.int .u64 g) ∧ World.cell? W ⟨w.heap.size + 1, 1, none⟩ = some (.int .u64 n2) ∧ World.cell? W ⟨sb, 2, none⟩ = some (.map (some lb)) ∧ (Builtin.len_ #[76] 3 #[.map (some lb)]).run Try.prog W = .ok (.int .i64 N) W) (by kernel_rfl) (by with_reducible exact ⟨a0, a1, b0, b1, c2, hln⟩) (fun _ => ?_)
  refine wpAnyH_take (i := 0) (oi := ({ dst := some 14, op := Op.move (Operand.tmp 0), type := 25, pos := _, after := #[], guard := none } : Oper)) (v := ?_) rfl (by kernel_rfl) (by kernel_rfl) (by kernel_rfl) (fun _ _ _ h => h) (Or.inl ⟨by rfl, ?_⟩) (by with_reducible exact ⟨a0, a1, b0, b1, c2, hln⟩) ?_
  rotate_left
  · intro w hSw
    try dsimp only at hSw
    go_simp
    try with_reducible rfl
  try simp only [Act.put, List.setIfInBounds_toArray, List.set_cons_zero, List.set_cons_succ]
  refine wpAnyH_take (i := 1) (oi := ({ dst := some 15, op := Op.binOp BinOp.eql 25 (Operand.tmp 14) (Operand.const (Value.pointer none)) 25, type := 4, pos := _, after := #[{ on := 0, ground := Ground.data }], guard := none } : Oper)) (v := ?_) rfl (by kernel_rfl) (by kernel_rfl) (by kernel_rfl) (fun _ _ _ h => h) (Or.inl ⟨by rfl, ?_⟩) (by with_reducible exact ⟨a0, a1, b0, b1, c2, hln⟩) ?_
  rotate_left
  · intro w hSw
    try dsimp only at hSw
    go_simp
    try with_reducible rfl
  try simp only [Act.put, List.setIfInBounds_toArray, List.set_cons_zero, List.set_cons_succ]
  refine wpAnyH_take (i := 2) (oi := ({ dst := some 16, op := Op.move (Operand.tmp 15), type := 4, pos := _, after := #[{ on := 1, ground := Ground.data }], guard := none } : Oper)) (v := ?_) rfl (by kernel_rfl) (by kernel_rfl) (by kernel_rfl) (fun _ _ _ h => h) (Or.inl ⟨by rfl, ?_⟩) (by with_reducible exact ⟨a0, a1, b0, b1, c2, hln⟩) ?_
  rotate_left
  · intro w hSw
    try dsimp only at hSw
    go_simp
    try with_reducible rfl
  try simp only [Act.put, List.setIfInBounds_toArray, List.set_cons_zero, List.set_cons_succ]
  refine wpAnyH_take (i := 3) (oi := ({ dst := some 17, op := Op.fieldAddr 33 (Operand.tmp 6) 0, type := 0, pos := _, after := #[{ on := 2, ground := Ground.guard }], guard := some (2, false) } : Oper)) (v := ?_) rfl (by kernel_rfl) (by kernel_rfl) (by kernel_rfl) (fun _ _ _ h => h) (Or.inl ⟨by rfl, ?_⟩) (by with_reducible exact ⟨a0, a1, b0, b1, c2, hln⟩) ?_
  rotate_left
  · intro w hSw
    try dsimp only at hSw
    go_simp
    try with_reducible rfl
  try simp only [Act.put, List.setIfInBounds_toArray, List.set_cons_zero, List.set_cons_succ]
  refine wpAnyH_take (i := 4) (oi := ({ dst := some 18, op := Op.load 31 (Operand.tmp 17), type := 31, pos := _, after := #[{ on := 3, ground := Ground.data }, { on := 2, ground := Ground.guard }], guard := some (2, false) } : Oper)) (v := ?_) rfl (by kernel_rfl) (by kernel_rfl) (by kernel_rfl) (fun _ _ _ h => h) (Or.inl ⟨by rfl, ?_⟩) (by with_reducible exact ⟨a0, a1, b0, b1, c2, hln⟩) ?_
  rotate_left
  · intro w hSw
    try dsimp only at hSw
    go_simp
    try with_reducible rfl
  try simp only [Act.put, List.setIfInBounds_toArray, List.set_cons_zero, List.set_cons_succ]
  refine wpAnyH_take (i := 5) (oi := ({ dst := some 19, op := Op.fieldAddr 33 (Operand.tmp 7) 0, type := 0, pos := _, after := #[{ on := 2, ground := Ground.guard }], guard := some (2, false) } : Oper)) (v := ?_) rfl (by kernel_rfl) (by kernel_rfl) (by kernel_rfl) (fun _ _ _ h => h) (Or.inl ⟨by rfl, ?_⟩) (by with_reducible exact ⟨a0, a1, b0, b1, c2, hln⟩) ?_
  rotate_left
  · intro w hSw
    try dsimp only at hSw
    go_simp
    try with_reducible rfl
  try simp only [Act.put, List.setIfInBounds_toArray, List.set_cons_zero, List.set_cons_succ]
  refine wpAnyH_take (i := 6) (oi := ({ dst := some 20, op := Op.load 31 (Operand.tmp 19), type := 31, pos := _, after := #[{ on := 5, ground := Ground.data }, { on := 2, ground := Ground.guard }], guard := some (2, false) } : Oper)) (v := ?_) rfl (by kernel_rfl) (by kernel_rfl) (by kernel_rfl) (fun _ _ _ h => h) (Or.inl ⟨by rfl, ?_⟩) (by with_reducible exact ⟨a0, a1, b0, b1, c2, hln⟩) ?_
  rotate_left
  · intro w hSw
    try dsimp only at hSw
    go_simp
    try with_reducible rfl
  try simp only [Act.put, List.setIfInBounds_toArray, List.set_cons_zero, List.set_cons_succ]
  refine wpAnyH_take (i := 7) (oi := ({ dst := some 21, op := Op.binOp BinOp.neq 31 (Operand.tmp 18) (Operand.tmp 20) 31, type := 4, pos := _, after := #[{ on := 4, ground := Ground.data }, { on := 6, ground := Ground.data }, { on := 2, ground := Ground.guard }], guard := some (2, false) } : Oper)) (v := ?_) rfl (by kernel_rfl) (by kernel_rfl) (by kernel_rfl) (fun _ _ _ h => h) (Or.inl ⟨by rfl, ?_⟩) (by with_reducible exact ⟨a0, a1, b0, b1, c2, hln⟩) ?_
  rotate_left
  · intro w hSw
    try dsimp only at hSw
    go_simp
    try with_reducible rfl
  try simp only [Act.put, List.setIfInBounds_toArray, List.set_cons_zero, List.set_cons_succ]
  refine wpAnyH_take (i := 8) (oi := ({ dst := some 22, op := Op.pick (Operand.tmp 16) (Operand.const (Value.bool true)) (Operand.tmp 21), type := 4, pos := _, after := #[{ on := 2, ground := Ground.data }, { on := 7, ground := Ground.data }], guard := none } : Oper)) (v := ?_) rfl (by kernel_rfl) (by kernel_rfl) (by kernel_rfl) (fun _ _ _ h => h) (Or.inl ⟨by rfl, ?_⟩) (by with_reducible exact ⟨a0, a1, b0, b1, c2, hln⟩) ?_
  rotate_left
  · intro w hSw
    try dsimp only at hSw
    go_simp
    try with_reducible rfl
  try simp only [Act.put, List.setIfInBounds_toArray, List.set_cons_zero, List.set_cons_succ]
  refine wpAnyH_take (i := 9) (oi := ({ dst := some 23, op := Op.move (Operand.tmp 22), type := 4, pos := _, after := #[{ on := 8, ground := Ground.data }, { on := 2, ground := Ground.chain }], guard := none } : Oper)) (v := ?_) rfl (by kernel_rfl) (by kernel_rfl) (by kernel_rfl) (fun _ _ _ h => h) (Or.inl ⟨by rfl, ?_⟩) (by with_reducible exact ⟨a0, a1, b0, b1, c2, hln⟩) ?_
  rotate_left
  · intro w hSw
    try dsimp only at hSw
    go_simp
    try with_reducible rfl
  try simp only [Act.put, List.setIfInBounds_toArray, List.set_cons_zero, List.set_cons_succ]
  refine wpAnyH_take (i := 10) (oi := ({ dst := some 24, op := Op.fieldAddr 33 (Operand.tmp 6) 1, type := 0, pos := _, after := #[{ on := 9, ground := Ground.guard }], guard := some (9, false) } : Oper)) (v := ?_) rfl (by kernel_rfl) (by kernel_rfl) (by kernel_rfl) (fun _ _ _ h => h) (Or.inl ⟨by rfl, ?_⟩) (by with_reducible exact ⟨a0, a1, b0, b1, c2, hln⟩) ?_
  rotate_left
  · intro w hSw
    try dsimp only at hSw
    go_simp
    try with_reducible rfl
  try simp only [Act.put, List.setIfInBounds_toArray, List.set_cons_zero, List.set_cons_succ]
  refine wpAnyH_take (i := 11) (oi := ({ dst := some 25, op := Op.load 31 (Operand.tmp 24), type := 31, pos := _, after := #[{ on := 10, ground := Ground.data }, { on := 9, ground := Ground.guard }], guard := some (9, false) } : Oper)) (v := ?_) rfl (by kernel_rfl) (by kernel_rfl) (by kernel_rfl) (fun _ _ _ h => h) (Or.inl ⟨by rfl, ?_⟩) (by with_reducible exact ⟨a0, a1, b0, b1, c2, hln⟩) ?_
  rotate_left
  · intro w hSw
    try dsimp only at hSw
    go_simp
    try with_reducible rfl
  try simp only [Act.put, List.setIfInBounds_toArray, List.set_cons_zero, List.set_cons_succ]
  refine wpAnyH_take (i := 12) (oi := ({ dst := some 26, op := Op.fieldAddr 33 (Operand.tmp 7) 1, type := 0, pos := _, after := #[{ on := 9, ground := Ground.guard }], guard := some (9, false) } : Oper)) (v := ?_) rfl (by kernel_rfl) (by kernel_rfl) (by kernel_rfl) (fun _ _ _ h => h) (Or.inl ⟨by rfl, ?_⟩) (by with_reducible exact ⟨a0, a1, b0, b1, c2, hln⟩) ?_
  rotate_left
  · intro w hSw
    try dsimp only at hSw
    go_simp
    try with_reducible rfl
  try simp only [Act.put, List.setIfInBounds_toArray, List.set_cons_zero, List.set_cons_succ]
  refine wpAnyH_take (i := 13) (oi := ({ dst := some 27, op := Op.load 31 (Operand.tmp 26), type := 31, pos := _, after := #[{ on := 12, ground := Ground.data }, { on := 9, ground := Ground.guard }], guard := some (9, false) } : Oper)) (v := ?_) rfl (by kernel_rfl) (by kernel_rfl) (by kernel_rfl) (fun _ _ _ h => h) (Or.inl ⟨by rfl, ?_⟩) (by with_reducible exact ⟨a0, a1, b0, b1, c2, hln⟩) ?_
  rotate_left
  · intro w hSw
    try dsimp only at hSw
    go_simp
    try with_reducible rfl
  try simp only [Act.put, List.setIfInBounds_toArray, List.set_cons_zero, List.set_cons_succ]
  refine wpAnyH_take (i := 14) (oi := ({ dst := some 28, op := Op.binOp BinOp.gtr 31 (Operand.tmp 25) (Operand.tmp 27) 31, type := 4, pos := _, after := #[{ on := 11, ground := Ground.data }, { on := 13, ground := Ground.data }, { on := 9, ground := Ground.guard }], guard := some (9, false) } : Oper)) (v := ?_) rfl (by kernel_rfl) (by kernel_rfl) (by kernel_rfl) (fun _ _ _ h => h) (Or.inl ⟨by rfl, ?_⟩) (by with_reducible exact ⟨a0, a1, b0, b1, c2, hln⟩) ?_
  rotate_left
  · intro w hSw
    try dsimp only at hSw
    go_simp
    try with_reducible rfl
  try simp only [Act.put, List.setIfInBounds_toArray, List.set_cons_zero, List.set_cons_succ]
  refine wpAnyH_take (i := 15) (oi := ({ dst := some 29, op := Op.pick (Operand.tmp 23) (Operand.const (Value.bool true)) (Operand.tmp 28), type := 4, pos := _, after := #[{ on := 9, ground := Ground.data }, { on := 14, ground := Ground.data }], guard := none } : Oper)) (v := ?_) rfl (by kernel_rfl) (by kernel_rfl) (by kernel_rfl) (fun _ _ _ h => h) (Or.inl ⟨by rfl, ?_⟩) (by with_reducible exact ⟨a0, a1, b0, b1, c2, hln⟩) ?_
  rotate_left
  · intro w hSw
    try dsimp only at hSw
    go_simp
    try with_reducible rfl
  try simp only [Act.put, List.setIfInBounds_toArray, List.set_cons_zero, List.set_cons_succ]
  refine wpAnyH_take (i := 16) (oi := ({ dst := some 30, op := Op.move (Operand.tmp 29), type := 4, pos := _, after := #[{ on := 15, ground := Ground.data }, { on := 9, ground := Ground.chain }], guard := none } : Oper)) (v := ?_) rfl (by kernel_rfl) (by kernel_rfl) (by kernel_rfl) (fun _ _ _ h => h) (Or.inl ⟨by rfl, ?_⟩) (by with_reducible exact ⟨a0, a1, b0, b1, c2, hln⟩) ?_
  rotate_left
  · intro w hSw
    try dsimp only at hSw
    go_simp
    try with_reducible rfl
  try simp only [Act.put, List.setIfInBounds_toArray, List.set_cons_zero, List.set_cons_succ]
  refine wpAnyH_take (i := 17) (oi := ({ dst := some 31, op := Op.fieldAddr 33 (Operand.tmp 7) 1, type := 0, pos := _, after := #[{ on := 16, ground := Ground.guard }], guard := some (16, false) } : Oper)) (v := undef) rfl (by kernel_rfl) (by kernel_rfl) (by kernel_rfl) (fun _ _ _ h => h) (Or.inr ⟨by rfl, rfl⟩) (by with_reducible exact ⟨a0, a1, b0, b1, c2, hln⟩) ?_
  try simp only [Act.put, List.setIfInBounds_toArray, List.set_cons_zero, List.set_cons_succ]
  refine wpAnyH_take (i := 18) (oi := ({ dst := some 32, op := Op.load 31 (Operand.tmp 31), type := 31, pos := _, after := #[{ on := 17, ground := Ground.data }, { on := 16, ground := Ground.guard }], guard := some (16, false) } : Oper)) (v := undef) rfl (by kernel_rfl) (by kernel_rfl) (by kernel_rfl) (fun _ _ _ h => h) (Or.inr ⟨by rfl, rfl⟩) (by with_reducible exact ⟨a0, a1, b0, b1, c2, hln⟩) ?_
  try simp only [Act.put, List.setIfInBounds_toArray, List.set_cons_zero, List.set_cons_succ]
  refine wpAnyH_take (i := 19) (oi := ({ dst := some 33, op := Op.fieldAddr 33 (Operand.tmp 6) 1, type := 0, pos := _, after := #[{ on := 16, ground := Ground.guard }], guard := some (16, false) } : Oper)) (v := undef) rfl (by kernel_rfl) (by kernel_rfl) (by kernel_rfl) (fun _ _ _ h => h) (Or.inr ⟨by rfl, rfl⟩) (by with_reducible exact ⟨a0, a1, b0, b1, c2, hln⟩) ?_
  try simp only [Act.put, List.setIfInBounds_toArray, List.set_cons_zero, List.set_cons_succ]
  refine wpAnyH_take (i := 20) (oi := ({ dst := some 34, op := Op.load 31 (Operand.tmp 33), type := 31, pos := _, after := #[{ on := 19, ground := Ground.data }, { on := 16, ground := Ground.guard }], guard := some (16, false) } : Oper)) (v := undef) rfl (by kernel_rfl) (by kernel_rfl) (by kernel_rfl) (fun _ _ _ h => h) (Or.inr ⟨by rfl, rfl⟩) (by with_reducible exact ⟨a0, a1, b0, b1, c2, hln⟩) ?_
  try simp only [Act.put, List.setIfInBounds_toArray, List.set_cons_zero, List.set_cons_succ]
  refine wpAnyH_take (i := 21) (oi := ({ dst := some 35, op := Op.binOp BinOp.sub 31 (Operand.tmp 32) (Operand.tmp 34) 31, type := 31, pos := _, after := #[{ on := 18, ground := Ground.data }, { on := 20, ground := Ground.data }, { on := 16, ground := Ground.guard }], guard := some (16, false) } : Oper)) (v := undef) rfl (by kernel_rfl) (by kernel_rfl) (by kernel_rfl) (fun _ _ _ h => h) (Or.inr ⟨by rfl, rfl⟩) (by with_reducible exact ⟨a0, a1, b0, b1, c2, hln⟩) ?_
  try simp only [Act.put, List.setIfInBounds_toArray, List.set_cons_zero, List.set_cons_succ]
  refine wpAnyH_take (i := 22) (oi := ({ dst := some 36, op := Op.move (Operand.tmp 0), type := 25, pos := _, after := #[{ on := 16, ground := Ground.guard }], guard := some (16, false) } : Oper)) (v := undef) rfl (by kernel_rfl) (by kernel_rfl) (by kernel_rfl) (fun _ _ _ h => h) (Or.inr ⟨by rfl, rfl⟩) (by with_reducible exact ⟨a0, a1, b0, b1, c2, hln⟩) ?_
  try simp only [Act.put, List.setIfInBounds_toArray, List.set_cons_zero, List.set_cons_succ]
  refine wpAnyH_take (i := 23) (oi := ({ dst := some 37, op := Op.nilCheck (Operand.tmp 36), type := 0, pos := _, after := #[{ on := 22, ground := Ground.data }, { on := 16, ground := Ground.guard }], guard := some (16, false) } : Oper)) (v := undef) rfl (by kernel_rfl) (by kernel_rfl) (by kernel_rfl) (fun _ _ _ h => h) (Or.inr ⟨by rfl, rfl⟩) (by with_reducible exact ⟨a0, a1, b0, b1, c2, hln⟩) ?_
  try simp only [Act.put, List.setIfInBounds_toArray, List.set_cons_zero, List.set_cons_succ]
  refine wpAnyH_take (i := 24) (oi := ({ dst := some 38, op := Op.fieldAddr 81 (Operand.tmp 37) 2, type := 0, pos := _, after := #[{ on := 23, ground := Ground.data }, { on := 16, ground := Ground.guard }], guard := some (16, false) } : Oper)) (v := undef) rfl (by kernel_rfl) (by kernel_rfl) (by kernel_rfl) (fun _ _ _ h => h) (Or.inr ⟨by rfl, rfl⟩) (by with_reducible exact ⟨a0, a1, b0, b1, c2, hln⟩) ?_
  try simp only [Act.put, List.setIfInBounds_toArray, List.set_cons_zero, List.set_cons_succ]
  refine wpAnyH_take (i := 25) (oi := ({ dst := some 39, op := Op.load 76 (Operand.tmp 38), type := 76, pos := _, after := #[{ on := 24, ground := Ground.data }, { on := 16, ground := Ground.guard }], guard := some (16, false) } : Oper)) (v := undef) rfl (by kernel_rfl) (by kernel_rfl) (by kernel_rfl) (fun _ _ _ h => h) (Or.inr ⟨by rfl, rfl⟩) (by with_reducible exact ⟨a0, a1, b0, b1, c2, hln⟩) ?_
  try simp only [Act.put, List.setIfInBounds_toArray, List.set_cons_zero, List.set_cons_succ]
  refine wpAnyH_take (i := 26) (oi := ({ dst := some 40, op := Op.call { callee := Callee.builtin Builtin.len, args := #[Operand.tmp 39], argTypes := #[76] }, type := 3, pos := _, after := #[{ on := 25, ground := Ground.data }, { on := 16, ground := Ground.chain }, { on := 16, ground := Ground.guard }], guard := some (16, false) } : Oper)) (v := undef) rfl (by kernel_rfl) (by kernel_rfl) (by kernel_rfl) (fun _ _ _ h => h) (Or.inr ⟨by rfl, rfl⟩) (by with_reducible exact ⟨a0, a1, b0, b1, c2, hln⟩) ?_
  try simp only [Act.put, List.setIfInBounds_toArray, List.set_cons_zero, List.set_cons_succ]
  refine wpAnyH_take (i := 27) (oi := ({ dst := some 41, op := Op.convert 3 31 (Operand.tmp 40), type := 31, pos := _, after := #[{ on := 26, ground := Ground.data }, { on := 16, ground := Ground.guard }], guard := some (16, false) } : Oper)) (v := undef) rfl (by kernel_rfl) (by kernel_rfl) (by kernel_rfl) (fun _ _ _ h => h) (Or.inr ⟨by rfl, rfl⟩) (by with_reducible exact ⟨a0, a1, b0, b1, c2, hln⟩) ?_
  try simp only [Act.put, List.setIfInBounds_toArray, List.set_cons_zero, List.set_cons_succ]
  refine wpAnyH_take (i := 28) (oi := ({ dst := some 42, op := Op.binOp BinOp.geq 31 (Operand.tmp 35) (Operand.tmp 41) 31, type := 4, pos := _, after := #[{ on := 21, ground := Ground.data }, { on := 27, ground := Ground.data }, { on := 16, ground := Ground.guard }], guard := some (16, false) } : Oper)) (v := undef) rfl (by kernel_rfl) (by kernel_rfl) (by kernel_rfl) (fun _ _ _ h => h) (Or.inr ⟨by rfl, rfl⟩) (by with_reducible exact ⟨a0, a1, b0, b1, c2, hln⟩) ?_
  try simp only [Act.put, List.setIfInBounds_toArray, List.set_cons_zero, List.set_cons_succ]
  refine wpAnyH_take (i := 29) (oi := ({ dst := some 43, op := Op.pick (Operand.tmp 30) (Operand.const (Value.bool true)) (Operand.tmp 42), type := 4, pos := _, after := #[{ on := 16, ground := Ground.data }, { on := 28, ground := Ground.data }], guard := none } : Oper)) (v := ?_) rfl (by kernel_rfl) (by kernel_rfl) (by kernel_rfl) (fun _ _ _ h => h) (Or.inl ⟨by rfl, ?_⟩) (by with_reducible exact ⟨a0, a1, b0, b1, c2, hln⟩) ?_
  rotate_left
  · intro w hSw
    try dsimp only at hSw
    go_simp
    try with_reducible rfl
  try simp only [Act.put, List.setIfInBounds_toArray, List.set_cons_zero, List.set_cons_succ]
  refine wpAnyH_done (by kernel_rfl) ?_ _
  go_wp2_with fail
  refine bodyPost_ret (results_tmp2 rfl _ _ _) rfl ?_
  exact ⟨rfl, hHd, below_drewN hb 1⟩
set_option maxHeartbeats 4000000 in
set_option maxRecDepth 100000 in
theorem run_long (B sb lb zb tb : Nat) (v : Value) (room g n n2 : Int) (l : List Int) (s : PS) (w : World) (hH : HS w B sb lb zb tb room s) (hv : RdF w v l) (hk : BytesOk l) (hll : l.length ≤ 1000000) (hg : U64 g) (hn : U64 n) (hn2 : U64 n2) (hne : n ≤ n2) (hlen : (s.E.length : Int) ≤ n2 - n) :
    Calls Try.prog 17 #[.pointer (some ⟨sb, 0, none⟩), v, .agg #[.int .u64 g, .int .u64 n], .agg #[.int .u64 g, .int .u64 n2]] w fun e w' => e = .returned (.tuple #[.slice none 0 0, .bool false]) ∧ HS w' B sb lb zb tb room s ∧ Below w.heap.size w w' := by
  have hP0 := (Blk.new w 33 #[.int .u64 g, .int .u64 n]).alloc (.cells #[.int .u64 g, .int .u64 n2] 33)
  have hQ0 : Blk ((w.alloc (.cells #[.int .u64 g, .int .u64 n] 33)).alloc (.cells #[.int .u64 g, .int .u64 n2] 33)) (w.heap.size + 1) 33 #[.int .u64 g, .int .u64 n2] := blk_new_at (by simp)
  have hb0 : Below w.heap.size w ((w.alloc (.cells #[.int .u64 g, .int .u64 n] 33)).alloc (.cells #[.int .u64 g, .int .u64 n2] 33)) := ((Below.refl w.heap.size w).alloc (Nat.le_refl _) _).alloc (by simp) _
  have hH0 := hH.kept hb0
  have hv0 := hv.below hb0
  obtain ⟨vA, vc, rfl⟩ := hv.1.form
  go_enter Try.func17, Try.ntmps17
  go_upto_region 1 with fail
  refine wp_world (fun wz => HS wz B sb lb zb tb room s ∧ Blk wz w.heap.size 33 #[.int .u64 g, .int .u64 n] ∧ Blk wz (w.heap.size + 1) 33 #[.int .u64 g, .int .u64 n2] ∧ RdF wz (.slice vA l.length vc) l ∧ Below w.heap.size w wz) ⟨hH0, hP0, hQ0, hv0, hb0⟩ ?_
  clear hH0 hP0 hQ0 hv0 hb0 hH hv
  rintro w1 ⟨hH, hP, hQ, hv, hb⟩
  have a0 : World.cell? w1.drew ⟨w.heap.size, 0, none⟩ = some (.int .u64 g) := hP.cell 0
  have a1 : World.cell? w1.drew ⟨w.heap.size, 1, none⟩ = some (.int .u64 n) := hP.cell 1
  have b0 : World.cell? w1.drew ⟨w.heap.size + 1, 0, none⟩ = some (.int .u64 g) := hQ.cell 0
  have b1 : World.cell? w1.drew ⟨w.heap.size + 1, 1, none⟩ = some (.int .u64 n2) := hQ.cell 1
  have hHd : HS w1.drew B sb lb zb tb room s := hH.kept (below_drewN (Below.refl _ _) 1)
  obtain ⟨N, hN⟩ : ∃ N : Nat, N = s.E.length := ⟨_, rfl⟩
  have hcl : World.cell? w1.drew ⟨sb, 2, none⟩ = some (.map (some lb)) ∧ (Builtin.len_ #[76] 3 #[.map (some lb)]).run Try.prog w1.drew = .ok (.int .i64 N) w1.drew := by
    obtain ⟨lv, E, hE, hS⟩ := hHd
    refine ⟨hS.blk.cell 2, ?_⟩
    rw [hS.kl.len (t := 76) Try.underlying76, hN, ← hE, List.length_map, List.length_map]
  obtain ⟨c2, hln⟩ := hcl
  have HNE := Lib.hid hN
  clear hN
  have hd : (g == g) = true := by simp
  have hdn : (g != g) = false := by simp
  have hd2 : decide (n2 < n) = false := decide_eq_false (by omega)
  have hU : 0 ≤ n ∧ n2 ≤ 18446744073709551615 := ⟨hn.1, hn2.2⟩
  have hw1 : IntKind.u64.wrap (n2 - n) = n2 - n := by rw [IntKind.wrap_u64]; omega
  have hlen2 : (N : Int) ≤ n2 - n := by rw [HNE.out]; exact hlen
  have hdl : decide ((N : Int) ≤ n2 - n) = true := decide_eq_true hlen2
  have hw2 : IntKind.u64.wrap (N : Int) = N := by rw [IntKind.wrap_u64]; omega
  clear hlen
  refine wp_region_held_drew (S := fun W => World.cell? W ⟨w.heap.size, 0, none⟩ = some (.int .u64 g) ∧ World.cell? W ⟨w.heap.size, 1, none⟩ = some (.int .u64 n) ∧ World.cell? W ⟨w.heap.size + 1, 0, none⟩ = some (.int .u64 g) ∧ World.cell? W ⟨w.heap.size + 1, 1, none⟩ = some (.int .u64 n2) ∧ World.cell? W ⟨sb, 2, none⟩ = some (.map (some lb)) ∧ (Builtin.len_ #[76] 3 #[.map (some lb)]).run Try.prog W = .ok (.int .i64 N) W) (by kernel_rfl) (by with_reducible exact ⟨a0, a1, b0, b1, c2, hln⟩) (fun _ => ?_)
  refine wpAnyH_take (i := 0) (oi := ({ dst := some 14, op := Op.move (Operand.tmp 0), type := 25, pos := _, after := #[], guard := none } : Oper)) (v := ?_) rfl (by kernel_rfl) (by kernel_rfl) (by kernel_rfl) (fun _ _ _ h => h) (Or.inl ⟨by rfl, ?_⟩) (by with_reducible exact ⟨a0, a1, b0, b1, c2, hln⟩) ?_
  rotate_left
  · intro w hSw
    try dsimp only at hSw
    go_simp
    try with_reducible rfl
  try simp only [Act.put, List.setIfInBounds_toArray, List.set_cons_zero, List.set_cons_succ]
  refine wpAnyH_take (i := 1) (oi := ({ dst := some 15, op := Op.binOp BinOp.eql 25 (Operand.tmp 14) (Operand.const (Value.pointer none)) 25, type := 4, pos := _, after := #[{ on := 0, ground := Ground.data }], guard := none } : Oper)) (v := ?_) rfl (by kernel_rfl) (by kernel_rfl) (by kernel_rfl) (fun _ _ _ h => h) (Or.inl ⟨by rfl, ?_⟩) (by with_reducible exact ⟨a0, a1, b0, b1, c2, hln⟩) ?_
  rotate_left
  · intro w hSw
    try dsimp only at hSw
    go_simp
    try with_reducible rfl
  try simp only [Act.put, List.setIfInBounds_toArray, List.set_cons_zero, List.set_cons_succ]
  refine wpAnyH_take (i := 2) (oi := ({ dst := some 16, op := Op.move (Operand.tmp 15), type := 4, pos := _, after := #[{ on := 1, ground := Ground.data }], guard := none } : Oper)) (v := ?_) rfl (by kernel_rfl) (by kernel_rfl) (by kernel_rfl) (fun _ _ _ h => h) (Or.inl ⟨by rfl, ?_⟩) (by with_reducible exact ⟨a0, a1, b0, b1, c2, hln⟩) ?_
  rotate_left
  · intro w hSw
    try dsimp only at hSw
    go_simp
    try with_reducible rfl
  try simp only [Act.put, List.setIfInBounds_toArray, List.set_cons_zero, List.set_cons_succ]
  refine wpAnyH_take (i := 3) (oi := ({ dst := some 17, op := Op.fieldAddr 33 (Operand.tmp 6) 0, type := 0, pos := _, after := #[{ on := 2, ground := Ground.guard }], guard := some (2, false) } : Oper)) (v := ?_) rfl (by kernel_rfl) (by kernel_rfl) (by kernel_rfl) (fun _ _ _ h => h) (Or.inl ⟨by rfl, ?_⟩) (by with_reducible exact ⟨a0, a1, b0, b1, c2, hln⟩) ?_
  rotate_left
  · intro w hSw
    try dsimp only at hSw
    go_simp
    try with_reducible rfl
  try simp only [Act.put, List.setIfInBounds_toArray, List.set_cons_zero, List.set_cons_succ]
  refine wpAnyH_take (i := 4) (oi := ({ dst := some 18, op := Op.load 31 (Operand.tmp 17), type := 31, pos := _, after := #[{ on := 3, ground := Ground.data }, { on := 2, ground := Ground.guard }], guard := some (2, false) } : Oper)) (v := ?_) rfl (by kernel_rfl) (by kernel_rfl) (by kernel_rfl) (fun _ _ _ h => h) (Or.inl ⟨by rfl, ?_⟩) (by with_reducible exact ⟨a0, a1, b0, b1, c2, hln⟩) ?_
  rotate_left
  · intro w hSw
    try dsimp only at hSw
    go_simp
    try with_reducible rfl
  try simp only [Act.put, List.setIfInBounds_toArray, List.set_cons_zero, List.set_cons_succ]
  refine wpAnyH_take (i := 5) (oi := ({ dst := some 19, op := Op.fieldAddr 33 (Operand.tmp 7) 0, type := 0, pos := _, after := #[{ on := 2, ground := Ground.guard }], guard := some (2, false) } : Oper)) (v := ?_) rfl (by kernel_rfl) (by kernel_rfl) (by kernel_rfl) (fun _ _ _ h => h) (Or.inl ⟨by rfl, ?_⟩) (by with_reducible exact ⟨a0, a1, b0, b1, c2, hln⟩) ?_
  rotate_left
  · intro w hSw
    try dsimp only at hSw
    go_simp
    try with_reducible rfl
  try simp only [Act.put, List.setIfInBounds_toArray, List.set_cons_zero, List.set_cons_succ]
  refine wpAnyH_take (i := 6) (oi := ({ dst := some 20, op := Op.load 31 (Operand.tmp 19), type := 31, pos := _, after := #[{ on := 5, ground := Ground.data }, { on := 2, ground := Ground.guard }], guard := some (2, false) } : Oper)) (v := ?_) rfl (by kernel_rfl) (by kernel_rfl) (by kernel_rfl) (fun _ _ _ h => h) (Or.inl ⟨by rfl, ?_⟩) (by with_reducible exact ⟨a0, a1, b0, b1, c2, hln⟩) ?_
  rotate_left
  · intro w hSw
    try dsimp only at hSw
    go_simp
    try with_reducible rfl
  try simp only [Act.put, List.setIfInBounds_toArray, List.set_cons_zero, List.set_cons_succ]
  refine wpAnyH_take (i := 7) (oi := ({ dst := some 21, op := Op.binOp BinOp.neq 31 (Operand.tmp 18) (Operand.tmp 20) 31, type := 4, pos := _, after := #[{ on := 4, ground := Ground.data }, { on := 6, ground := Ground.data }, { on := 2, ground := Ground.guard }], guard := some (2, false) } : Oper)) (v := ?_) rfl (by kernel_rfl) (by kernel_rfl) (by kernel_rfl) (fun _ _ _ h => h) (Or.inl ⟨by rfl, ?_⟩) (by with_reducible exact ⟨a0, a1, b0, b1, c2, hln⟩) ?_
  rotate_left
  · intro w hSw
    try dsimp only at hSw
    go_simp
    try with_reducible rfl
  try simp only [Act.put, List.setIfInBounds_toArray, List.set_cons_zero, List.set_cons_succ]
  refine wpAnyH_take (i := 8) (oi := ({ dst := some 22, op := Op.pick (Operand.tmp 16) (Operand.const (Value.bool true)) (Operand.tmp 21), type := 4, pos := _, after := #[{ on := 2, ground := Ground.data }, { on := 7, ground := Ground.data }], guard := none } : Oper)) (v := ?_) rfl (by kernel_rfl) (by kernel_rfl) (by kernel_rfl) (fun _ _ _ h => h) (Or.inl ⟨by rfl, ?_⟩) (by with_reducible exact ⟨a0, a1, b0, b1, c2, hln⟩) ?_
  rotate_left
  · intro w hSw
    try dsimp only at hSw
    go_simp
    try with_reducible rfl
  try simp only [Act.put, List.setIfInBounds_toArray, List.set_cons_zero, List.set_cons_succ]
  refine wpAnyH_take (i := 9) (oi := ({ dst := some 23, op := Op.move (Operand.tmp 22), type := 4, pos := _, after := #[{ on := 8, ground := Ground.data }, { on := 2, ground := Ground.chain }], guard := none } : Oper)) (v := ?_) rfl (by kernel_rfl) (by kernel_rfl) (by kernel_rfl) (fun _ _ _ h => h) (Or.inl ⟨by rfl, ?_⟩) (by with_reducible exact ⟨a0, a1, b0, b1, c2, hln⟩) ?_
  rotate_left
  · intro w hSw
    try dsimp only at hSw
    go_simp
    try with_reducible rfl
  try simp only [Act.put, List.setIfInBounds_toArray, List.set_cons_zero, List.set_cons_succ]
  refine wpAnyH_take (i := 10) (oi := ({ dst := some 24, op := Op.fieldAddr 33 (Operand.tmp 6) 1, type := 0, pos := _, after := #[{ on := 9, ground := Ground.guard }], guard := some (9, false) } : Oper)) (v := ?_) rfl (by kernel_rfl) (by kernel_rfl) (by kernel_rfl) (fun _ _ _ h => h) (Or.inl ⟨by rfl, ?_⟩) (by with_reducible exact ⟨a0, a1, b0, b1, c2, hln⟩) ?_
  rotate_left
  · intro w hSw
    try dsimp only at hSw
    go_simp
    try with_reducible rfl
  try simp only [Act.put, List.setIfInBounds_toArray, List.set_cons_zero, List.set_cons_succ]
  refine wpAnyH_take (i := 11) (oi := ({ dst := some 25, op := Op.load 31 (Operand.tmp 24), type := 31, pos := _, after := #[{ on := 10, ground := Ground.data }, { on := 9, ground := Ground.guard }], guard := some (9, false) } : Oper)) (v := ?_) rfl (by kernel_rfl) (by kernel_rfl) (by kernel_rfl) (fun _ _ _ h => h) (Or.inl ⟨by rfl, ?_⟩) (by with_reducible exact ⟨a0, a1, b0, b1, c2, hln⟩) ?_
  rotate_left
  · intro w hSw
    try dsimp only at hSw
    go_simp
    try with_reducible rfl
  try simp only [Act.put, List.setIfInBounds_toArray, List.set_cons_zero, List.set_cons_succ]
  refine wpAnyH_take (i := 12) (oi := ({ dst := some 26, op := Op.fieldAddr 33 (Operand.tmp 7) 1, type := 0, pos := _, after := #[{ on := 9, ground := Ground.guard }], guard := some (9, false) } : Oper)) (v := ?_) rfl (by kernel_rfl) (by kernel_rfl) (by kernel_rfl) (fun _ _ _ h => h) (Or.inl ⟨by rfl, ?_⟩) (by with_reducible exact ⟨a0, a1, b0, b1, c2, hln⟩) ?_
  rotate_left
  · intro w hSw
    try dsimp only at hSw
    go_simp
    try with_reducible rfl
  try simp only [Act.put, List.setIfInBounds_toArray, List.set_cons_zero, List.set_cons_succ]
  refine wpAnyH_take (i := 13) (oi := ({ dst := some 27, op := Op.load 31 (Operand.tmp 26), type := 31, pos := _, after := #[{ on := 12, ground := Ground.data }, { on := 9, ground := Ground.guard }], guard := some (9, false) } : Oper)) (v := ?_) rfl (by kernel_rfl) (by kernel_rfl) (by kernel_rfl) (fun _ _ _ h => h) (Or.inl ⟨by rfl, ?_⟩) (by with_reducible exact ⟨a0, a1, b0, b1, c2, hln⟩) ?_
  rotate_left
  · intro w hSw
    try dsimp only at hSw
    go_simp
    try with_reducible rfl
  try simp only [Act.put, List.setIfInBounds_toArray, List.set_cons_zero, List.set_cons_succ]
  refine wpAnyH_take (i := 14) (oi := ({ dst := some 28, op := Op.binOp BinOp.gtr 31 (Operand.tmp 25) (Operand.tmp 27) 31, type := 4, pos := _, after := #[{ on := 11, ground := Ground.data }, { on := 13, ground := Ground.data }, { on := 9, ground := Ground.guard }], guard := some (9, false) } : Oper)) (v := ?_) rfl (by kernel_rfl) (by kernel_rfl) (by kernel_rfl) (fun _ _ _ h => h) (Or.inl ⟨by rfl, ?_⟩) (by with_reducible exact ⟨a0, a1, b0, b1, c2, hln⟩) ?_
  rotate_left
  · intro w hSw
    try dsimp only at hSw
    go_simp
    try with_reducible rfl
  try simp only [Act.put, List.setIfInBounds_toArray, List.set_cons_zero, List.set_cons_succ]
  refine wpAnyH_take (i := 15) (oi := ({ dst := some 29, op := Op.pick (Operand.tmp 23) (Operand.const (Value.bool true)) (Operand.tmp 28), type := 4, pos := _, after := #[{ on := 9, ground := Ground.data }, { on := 14, ground := Ground.data }], guard := none } : Oper)) (v := ?_) rfl (by kernel_rfl) (by kernel_rfl) (by kernel_rfl) (fun _ _ _ h => h) (Or.inl ⟨by rfl, ?_⟩) (by with_reducible exact ⟨a0, a1, b0, b1, c2, hln⟩) ?_
  rotate_left
  · intro w hSw
    try dsimp only at hSw
    go_simp
    try with_reducible rfl
  try simp only [Act.put, List.setIfInBounds_toArray, List.set_cons_zero, List.set_cons_succ]
  refine wpAnyH_take (i := 16) (oi := ({ dst := some 30, op := Op.move (Operand.tmp 29), type := 4, pos := _, after := #[{ on := 15, ground := Ground.data }, { on := 9, ground := Ground.chain }], guard := none } : Oper)) (v := ?_) rfl (by kernel_rfl) (by kernel_rfl) (by kernel_rfl) (fun _ _ _ h => h) (Or.inl ⟨by rfl, ?_⟩) (by with_reducible exact ⟨a0, a1, b0, b1, c2, hln⟩) ?_
  rotate_left
  · intro w hSw
    try dsimp only at hSw
    go_simp
    try with_reducible rfl
  try simp only [Act.put, List.setIfInBounds_toArray, List.set_cons_zero, List.set_cons_succ]
  refine wpAnyH_take (i := 17) (oi := ({ dst := some 31, op := Op.fieldAddr 33 (Operand.tmp 7) 1, type := 0, pos := _, after := #[{ on := 16, ground := Ground.guard }], guard := some (16, false) } : Oper)) (v := ?_) rfl (by kernel_rfl) (by kernel_rfl) (by kernel_rfl) (fun _ _ _ h => h) (Or.inl ⟨by rfl, ?_⟩) (by with_reducible exact ⟨a0, a1, b0, b1, c2, hln⟩) ?_
  rotate_left
  · intro w hSw
    try dsimp only at hSw
    go_simp
    try with_reducible rfl
  try simp only [Act.put, List.setIfInBounds_toArray, List.set_cons_zero, List.set_cons_succ]
  refine wpAnyH_take (i := 18) (oi := ({ dst := some 32, op := Op.load 31 (Operand.tmp 31), type := 31, pos := _, after := #[{ on := 17, ground := Ground.data }, { on := 16, ground := Ground.guard }], guard := some (16, false) } : Oper)) (v := ?_) rfl (by kernel_rfl) (by kernel_rfl) (by kernel_rfl) (fun _ _ _ h => h) (Or.inl ⟨by rfl, ?_⟩) (by with_reducible exact ⟨a0, a1, b0, b1, c2, hln⟩) ?_
  rotate_left
  · intro w hSw
    try dsimp only at hSw
    go_simp
    try with_reducible rfl
  try simp only [Act.put, List.setIfInBounds_toArray, List.set_cons_zero, List.set_cons_succ]
  refine wpAnyH_take (i := 19) (oi := ({ dst := some 33, op := Op.fieldAddr 33 (Operand.tmp 6) 1, type := 0, pos := _, after := #[{ on := 16, ground := Ground.guard }], guard := some (16, false) } : Oper)) (v := ?_) rfl (by kernel_rfl) (by kernel_rfl) (by kernel_rfl) (fun _ _ _ h => h) (Or.inl ⟨by rfl, ?_⟩) (by with_reducible exact ⟨a0, a1, b0, b1, c2, hln⟩) ?_
  rotate_left
  · intro w hSw
    try dsimp only at hSw
    go_simp
    try with_reducible rfl
  try simp only [Act.put, List.setIfInBounds_toArray, List.set_cons_zero, List.set_cons_succ]
  refine wpAnyH_take (i := 20) (oi := ({ dst := some 34, op := Op.load 31 (Operand.tmp 33), type := 31, pos := _, after := #[{ on := 19, ground := Ground.data }, { on := 16, ground := Ground.guard }], guard := some (16, false) } : Oper)) (v := ?_) rfl (by kernel_rfl) (by kernel_rfl) (by kernel_rfl) (fun _ _ _ h => h) (Or.inl ⟨by rfl, ?_⟩) (by with_reducible exact ⟨a0, a1, b0, b1, c2, hln⟩) ?_
  rotate_left
  · intro w hSw
    try dsimp only at hSw
    go_simp
    try with_reducible rfl
  try simp only [Act.put, List.setIfInBounds_toArray, List.set_cons_zero, List.set_cons_succ]
  refine wpAnyH_take (i := 21) (oi := ({ dst := some 35, op := Op.binOp BinOp.sub 31 (Operand.tmp 32) (Operand.tmp 34) 31, type := 31, pos := _, after := #[{ on := 18, ground := Ground.data }, { on := 20, ground := Ground.data }, { on := 16, ground := Ground.guard }], guard := some (16, false) } : Oper)) (v := ?_) rfl (by kernel_rfl) (by kernel_rfl) (by kernel_rfl) (fun _ _ _ h => h) (Or.inl ⟨by rfl, ?_⟩) (by with_reducible exact ⟨a0, a1, b0, b1, c2, hln⟩) ?_
  rotate_left
  · intro w hSw
    try dsimp only at hSw
    go_simp
    try with_reducible rfl
  try simp only [Act.put, List.setIfInBounds_toArray, List.set_cons_zero, List.set_cons_succ]
  refine wpAnyH_take (i := 22) (oi := ({ dst := some 36, op := Op.move (Operand.tmp 0), type := 25, pos := _, after := #[{ on := 16, ground := Ground.guard }], guard := some (16, false) } : Oper)) (v := ?_) rfl (by kernel_rfl) (by kernel_rfl) (by kernel_rfl) (fun _ _ _ h => h) (Or.inl ⟨by rfl, ?_⟩) (by with_reducible exact ⟨a0, a1, b0, b1, c2, hln⟩) ?_
  rotate_left
  · intro w hSw
    try dsimp only at hSw
    go_simp
    try with_reducible rfl
  try simp only [Act.put, List.setIfInBounds_toArray, List.set_cons_zero, List.set_cons_succ]
  refine wpAnyH_take (i := 23) (oi := ({ dst := some 37, op := Op.nilCheck (Operand.tmp 36), type := 0, pos := _, after := #[{ on := 22, ground := Ground.data }, { on := 16, ground := Ground.guard }], guard := some (16, false) } : Oper)) (v := ?_) rfl (by kernel_rfl) (by kernel_rfl) (by kernel_rfl) (fun _ _ _ h => h) (Or.inl ⟨by rfl, ?_⟩) (by with_reducible exact ⟨a0, a1, b0, b1, c2, hln⟩) ?_
  rotate_left
  · intro w hSw
    try dsimp only at hSw
    go_simp
    try with_reducible rfl
  try simp only [Act.put, List.setIfInBounds_toArray, List.set_cons_zero, List.set_cons_succ]
  refine wpAnyH_take (i := 24) (oi := ({ dst := some 38, op := Op.fieldAddr 81 (Operand.tmp 37) 2, type := 0, pos := _, after := #[{ on := 23, ground := Ground.data }, { on := 16, ground := Ground.guard }], guard := some (16, false) } : Oper)) (v := ?_) rfl (by kernel_rfl) (by kernel_rfl) (by kernel_rfl) (fun _ _ _ h => h) (Or.inl ⟨by rfl, ?_⟩) (by with_reducible exact ⟨a0, a1, b0, b1, c2, hln⟩) ?_
  rotate_left
  · intro w hSw
    try dsimp only at hSw
    go_simp
    try with_reducible rfl
  try simp only [Act.put, List.setIfInBounds_toArray, List.set_cons_zero, List.set_cons_succ]
  refine wpAnyH_take (i := 25) (oi := ({ dst := some 39, op := Op.load 76 (Operand.tmp 38), type := 76, pos := _, after := #[{ on := 24, ground := Ground.data }, { on := 16, ground := Ground.guard }], guard := some (16, false) } : Oper)) (v := ?_) rfl (by kernel_rfl) (by kernel_rfl) (by kernel_rfl) (fun _ _ _ h => h) (Or.inl ⟨by rfl, ?_⟩) (by with_reducible exact ⟨a0, a1, b0, b1, c2, hln⟩) ?_
  rotate_left
  · intro w hSw
    try dsimp only at hSw
    go_simp
    try with_reducible rfl
  try simp only [Act.put, List.setIfInBounds_toArray, List.set_cons_zero, List.set_cons_succ]
  refine wpAnyH_take (i := 26) (oi := ({ dst := some 40, op := Op.call { callee := Callee.builtin Builtin.len, args := #[Operand.tmp 39], argTypes := #[76] }, type := 3, pos := _, after := #[{ on := 25, ground := Ground.data }, { on := 16, ground := Ground.chain }, { on := 16, ground := Ground.guard }], guard := some (16, false) } : Oper)) (v := (.int .i64 N)) rfl (by kernel_rfl) (by kernel_rfl) (by kernel_rfl) (fun _ _ _ h => h) (yieldsIf_mlen (by rfl) 76 (.tmp 39) rfl (.map (some lb)) rfl _ (fun W h => h.2.2.2.2.2)) (by with_reducible exact ⟨a0, a1, b0, b1, c2, hln⟩) ?_
  try simp only [Act.put, List.setIfInBounds_toArray, List.set_cons_zero, List.set_cons_succ]
  refine wpAnyH_take (i := 27) (oi := ({ dst := some 41, op := Op.convert 3 31 (Operand.tmp 40), type := 31, pos := _, after := #[{ on := 26, ground := Ground.data }, { on := 16, ground := Ground.guard }], guard := some (16, false) } : Oper)) (v := ?_) rfl (by kernel_rfl) (by kernel_rfl) (by kernel_rfl) (fun _ _ _ h => h) (Or.inl ⟨by rfl, ?_⟩) (by with_reducible exact ⟨a0, a1, b0, b1, c2, hln⟩) ?_
  rotate_left
  · intro w hSw
    try dsimp only at hSw
    go_simp
    try with_reducible rfl
  try simp only [Act.put, List.setIfInBounds_toArray, List.set_cons_zero, List.set_cons_succ]
  refine wpAnyH_take (i := 28) (oi := ({ dst := some 42, op := Op.binOp BinOp.geq 31 (Operand.tmp 35) (Operand.tmp 41) 31, type := 4, pos := _, after := #[{ on := 21, ground := Ground.data }, { on := 27, ground := Ground.data }, { on := 16, ground := Ground.guard }], guard := some (16, false) } : Oper)) (v := ?_) rfl (by kernel_rfl) (by kernel_rfl) (by kernel_rfl) (fun _ _ _ h => h) (Or.inl ⟨by rfl, ?_⟩) (by with_reducible exact ⟨a0, a1, b0, b1, c2, hln⟩) ?_
  rotate_left
  · intro w hSw
    try dsimp only at hSw
    go_simp
    try with_reducible rfl
  try simp only [Act.put, List.setIfInBounds_toArray, List.set_cons_zero, List.set_cons_succ]
  refine wpAnyH_take (i := 29) (oi := ({ dst := some 43, op := Op.pick (Operand.tmp 30) (Operand.const (Value.bool true)) (Operand.tmp 42), type := 4, pos := _, after := #[{ on := 16, ground := Ground.data }, { on := 28, ground := Ground.data }], guard := none } : Oper)) (v := ?_) rfl (by kernel_rfl) (by kernel_rfl) (by kernel_rfl) (fun _ _ _ h => h) (Or.inl ⟨by rfl, ?_⟩) (by with_reducible exact ⟨a0, a1, b0, b1, c2, hln⟩) ?_
  rotate_left
  · intro w hSw
    try dsimp only at hSw
    go_simp
    try with_reducible rfl
  try simp only [Act.put, List.setIfInBounds_toArray, List.set_cons_zero, List.set_cons_succ]
  refine wpAnyH_done (by kernel_rfl) ?_ _
  go_wp2_with fail
  refine bodyPost_ret (results_tmp2 rfl _ _ _) rfl ?_
  exact ⟨rfl, hHd, below_drewN hb 1⟩
set_option maxHeartbeats 4000000 in
set_option maxRecDepth 100000 in
theorem run_main (B sb lb zb tb : Nat) (v : Value) (room g n n2 : Int) (l : List Int) (s : PS) (w : World) (hH : HS w B sb lb zb tb room s) (hv : RdF w v l) (hk : BytesOk l) (hll : l.length ≤ 1000000) (hg : U64 g) (hn : U64 n) (hn2 : U64 n2) (hok : s.Ok room) (hroom : room ≤ 1048576) (hne : n ≤ n2) (hlen : n2 - n < (s.E.length : Int)) (M : Nat) (hM : (M : Int) = n2 - n + 1) :
    Calls Try.prog 17 #[.pointer (some ⟨sb, 0, none⟩), v, .agg #[.int .u64 g, .int .u64 n], .agg #[.int .u64 g, .int .u64 n2]] w fun e w' => HS w' B sb lb zb tb room s ∧ Below w.heap.size w w' ∧ RunOut w.heap.size w' (pcol s l g n M) e := by
  have HMM := Lib.hid hM
  clear hM
  have HOK := Lib.hid hok
  have hel := hok.elen
  clear hok
  obtain ⟨i0, hi, hz0, hz1, hz2⟩ := info_parts infoOb3
  have hP0 := (Blk.new w 33 #[.int .u64 g, .int .u64 n]).alloc (.cells #[.int .u64 g, .int .u64 n2] 33)
  have hQ0 : Blk ((w.alloc (.cells #[.int .u64 g, .int .u64 n] 33)).alloc (.cells #[.int .u64 g, .int .u64 n2] 33)) (w.heap.size + 1) 33 #[.int .u64 g, .int .u64 n2] := blk_new_at (by simp)
  have hb0 : Below w.heap.size w ((w.alloc (.cells #[.int .u64 g, .int .u64 n] 33)).alloc (.cells #[.int .u64 g, .int .u64 n2] 33)) := ((Below.refl w.heap.size w).alloc (Nat.le_refl _) _).alloc (by simp) _
  have hH0 := hH.kept hb0
  have hv0 := hv.below hb0
  obtain ⟨vA, vc, rfl⟩ := hv.1.form
  go_enter Try.func17, Try.ntmps17
  go_upto_region 1 with fail
  refine wp_world (fun wz => HS wz B sb lb zb tb room s ∧ Blk wz w.heap.size 33 #[.int .u64 g, .int .u64 n] ∧ Blk wz (w.heap.size + 1) 33 #[.int .u64 g, .int .u64 n2] ∧ RdF wz (.slice vA l.length vc) l ∧ Below w.heap.size w wz) ⟨hH0, hP0, hQ0, hv0, hb0⟩ ?_
  clear hH0 hP0 hQ0 hv0 hb0 hH hv
  rintro w1 ⟨hH, hP, hQ, hv, hb⟩
  have a0 : World.cell? w1.drew ⟨w.heap.size, 0, none⟩ = some (.int .u64 g) := hP.cell 0
  have a1 : World.cell? w1.drew ⟨w.heap.size, 1, none⟩ = some (.int .u64 n) := hP.cell 1
  have b0 : World.cell? w1.drew ⟨w.heap.size + 1, 0, none⟩ = some (.int .u64 g) := hQ.cell 0
  have b1 : World.cell? w1.drew ⟨w.heap.size + 1, 1, none⟩ = some (.int .u64 n2) := hQ.cell 1
  have hHd : HS w1.drew B sb lb zb tb room s := hH.kept (below_drewN (Below.refl _ _) 1)
  obtain ⟨N, hN⟩ : ∃ N : Nat, N = s.E.length := ⟨_, rfl⟩
  have hcl : World.cell? w1.drew ⟨sb, 2, none⟩ = some (.map (some lb)) ∧ (Builtin.len_ #[76] 3 #[.map (some lb)]).run Try.prog w1.drew = .ok (.int .i64 N) w1.drew := by
    obtain ⟨lv, E, hE, hS⟩ := hHd
    refine ⟨hS.blk.cell 2, ?_⟩
    rw [hS.kl.len (t := 76) Try.underlying76, hN, ← hE, List.length_map, List.length_map]
  obtain ⟨c2, hln⟩ := hcl
  have HNE := Lib.hid hN
  clear hN
  have hd : (g == g) = true := by simp
  have hdn : (g != g) = false := by simp
  have hd2 : decide (n2 < n) = false := decide_eq_false (by omega)
  have hU : 0 ≤ n ∧ n2 ≤ 18446744073709551615 := ⟨hn.1, hn2.2⟩
  have hw1 : IntKind.u64.wrap (n2 - n) = n2 - n := by rw [IntKind.wrap_u64]; omega
  have hlen2 : n2 - n < (N : Int) := by rw [HNE.out]; exact hlen
  have hN16 : (N : Int) * 16 ≤ 1048576 := by rw [HNE.out]; omega
  have hdl : decide ((N : Int) ≤ n2 - n) = false := decide_eq_false (by omega)
  have hw2 : IntKind.u64.wrap (N : Int) = N := by rw [IntKind.wrap_u64]; omega
  clear hlen hel
  refine wp_region_held_drew (S := fun W => World.cell? W ⟨w.heap.size, 0, none⟩ = some (.int .u64 g) ∧ World.cell? W ⟨w.heap.size, 1, none⟩ = some (.int .u64 n) ∧ World.cell? W ⟨w.heap.size + 1, 0, none⟩ = some (.int .u64 g) ∧ World.cell? W ⟨w.heap.size + 1, 1, none⟩ = some (.int .u64 n2) ∧ World.cell? W ⟨sb, 2, none⟩ = some (.map (some lb)) ∧ (Builtin.len_ #[76] 3 #[.map (some lb)]).run Try.prog W = .ok (.int .i64 N) W) (by kernel_rfl) (by with_reducible exact ⟨a0, a1, b0, b1, c2, hln⟩) (fun _ => ?_)
  refine wpAnyH_take (i := 0) (oi := ({ dst := some 14, op := Op.move (Operand.tmp 0), type := 25, pos := _, after := #[], guard := none } : Oper)) (v := ?_) rfl (by kernel_rfl) (by kernel_rfl) (by kernel_rfl) (fun _ _ _ h => h) (Or.inl ⟨by rfl, ?_⟩) (by with_reducible exact ⟨a0, a1, b0, b1, c2, hln⟩) ?_
  rotate_left
  · intro w hSw
    try dsimp only at hSw
    go_simp
    try with_reducible rfl
  try simp only [Act.put, List.setIfInBounds_toArray, List.set_cons_zero, List.set_cons_succ]
  refine wpAnyH_take (i := 1) (oi := ({ dst := some 15, op := Op.binOp BinOp.eql 25 (Operand.tmp 14) (Operand.const (Value.pointer none)) 25, type := 4, pos := _, after := #[{ on := 0, ground := Ground.data }], guard := none } : Oper)) (v := ?_) rfl (by kernel_rfl) (by kernel_rfl) (by kernel_rfl) (fun _ _ _ h => h) (Or.inl ⟨by rfl, ?_⟩) (by with_reducible exact ⟨a0, a1, b0, b1, c2, hln⟩) ?_
  rotate_left
  · intro w hSw
    try dsimp only at hSw
    go_simp
    try with_reducible rfl
  try simp only [Act.put, List.setIfInBounds_toArray, List.set_cons_zero, List.set_cons_succ]
  refine wpAnyH_take (i := 2) (oi := ({ dst := some 16, op := Op.move (Operand.tmp 15), type := 4, pos := _, after := #[{ on := 1, ground := Ground.data }], guard := none } : Oper)) (v := ?_) rfl (by kernel_rfl) (by kernel_rfl) (by kernel_rfl) (fun _ _ _ h => h) (Or.inl ⟨by rfl, ?_⟩) (by with_reducible exact ⟨a0, a1, b0, b1, c2, hln⟩) ?_
  rotate_left
  · intro w hSw
    try dsimp only at hSw
    go_simp
    try with_reducible rfl
  try simp only [Act.put, List.setIfInBounds_toArray, List.set_cons_zero, List.set_cons_succ]
  refine wpAnyH_take (i := 3) (oi := ({ dst := some 17, op := Op.fieldAddr 33 (Operand.tmp 6) 0, type := 0, pos := _, after := #[{ on := 2, ground := Ground.guard }], guard := some (2, false) } : Oper)) (v := ?_) rfl (by kernel_rfl) (by kernel_rfl) (by kernel_rfl) (fun _ _ _ h => h) (Or.inl ⟨by rfl, ?_⟩) (by with_reducible exact ⟨a0, a1, b0, b1, c2, hln⟩) ?_
  rotate_left
  · intro w hSw
    try dsimp only at hSw
    go_simp
    try with_reducible rfl
  try simp only [Act.put, List.setIfInBounds_toArray, List.set_cons_zero, List.set_cons_succ]
  refine wpAnyH_take (i := 4) (oi := ({ dst := some 18, op := Op.load 31 (Operand.tmp 17), type := 31, pos := _, after := #[{ on := 3, ground := Ground.data }, { on := 2, ground := Ground.guard }], guard := some (2, false) } : Oper)) (v := ?_) rfl (by kernel_rfl) (by kernel_rfl) (by kernel_rfl) (fun _ _ _ h => h) (Or.inl ⟨by rfl, ?_⟩) (by with_reducible exact ⟨a0, a1, b0, b1, c2, hln⟩) ?_
  rotate_left
  · intro w hSw
    try dsimp only at hSw
    go_simp
    try with_reducible rfl
  try simp only [Act.put, List.setIfInBounds_toArray, List.set_cons_zero, List.set_cons_succ]
  refine wpAnyH_take (i := 5) (oi := ({ dst := some 19, op := Op.fieldAddr 33 (Operand.tmp 7) 0, type := 0, pos := _, after := #[{ on := 2, ground := Ground.guard }], guard := some (2, false) } : Oper)) (v := ?_) rfl (by kernel_rfl) (by kernel_rfl) (by kernel_rfl) (fun _ _ _ h => h) (Or.inl ⟨by rfl, ?_⟩) (by with_reducible exact ⟨a0, a1, b0, b1, c2, hln⟩) ?_
  rotate_left
  · intro w hSw
    try dsimp only at hSw
    go_simp
    try with_reducible rfl
  try simp only [Act.put, List.setIfInBounds_toArray, List.set_cons_zero, List.set_cons_succ]
  refine wpAnyH_take (i := 6) (oi := ({ dst := some 20, op := Op.load 31 (Operand.tmp 19), type := 31, pos := _, after := #[{ on := 5, ground := Ground.data }, { on := 2, ground := Ground.guard }], guard := some (2, false) } : Oper)) (v := ?_) rfl (by kernel_rfl) (by kernel_rfl) (by kernel_rfl) (fun _ _ _ h => h) (Or.inl ⟨by rfl, ?_⟩) (by with_reducible exact ⟨a0, a1, b0, b1, c2, hln⟩) ?_
  rotate_left
  · intro w hSw
    try dsimp only at hSw
    go_simp
    try with_reducible rfl
  try simp only [Act.put, List.setIfInBounds_toArray, List.set_cons_zero, List.set_cons_succ]
  refine wpAnyH_take (i := 7) (oi := ({ dst := some 21, op := Op.binOp BinOp.neq 31 (Operand.tmp 18) (Operand.tmp 20) 31, type := 4, pos := _, after := #[{ on := 4, ground := Ground.data }, { on := 6, ground := Ground.data }, { on := 2, ground := Ground.guard }], guard := some (2, false) } : Oper)) (v := ?_) rfl (by kernel_rfl) (by kernel_rfl) (by kernel_rfl) (fun _ _ _ h => h) (Or.inl ⟨by rfl, ?_⟩) (by with_reducible exact ⟨a0, a1, b0, b1, c2, hln⟩) ?_
  rotate_left
  · intro w hSw
    try dsimp only at hSw
    go_simp
    try with_reducible rfl
  try simp only [Act.put, List.setIfInBounds_toArray, List.set_cons_zero, List.set_cons_succ]
  refine wpAnyH_take (i := 8) (oi := ({ dst := some 22, op := Op.pick (Operand.tmp 16) (Operand.const (Value.bool true)) (Operand.tmp 21), type := 4, pos := _, after := #[{ on := 2, ground := Ground.data }, { on := 7, ground := Ground.data }], guard := none } : Oper)) (v := ?_) rfl (by kernel_rfl) (by kernel_rfl) (by kernel_rfl) (fun _ _ _ h => h) (Or.inl ⟨by rfl, ?_⟩) (by with_reducible exact ⟨a0, a1, b0, b1, c2, hln⟩) ?_
  rotate_left
  · intro w hSw
    try dsimp only at hSw
    go_simp
    try with_reducible rfl
  try simp only [Act.put, List.setIfInBounds_toArray, List.set_cons_zero, List.set_cons_succ]
  refine wpAnyH_take (i := 9) (oi := ({ dst := some 23, op := Op.move (Operand.tmp 22), type := 4, pos := _, after := #[{ on := 8, ground := Ground.data }, { on := 2, ground := Ground.chain }], guard := none } : Oper)) (v := ?_) rfl (by kernel_rfl) (by kernel_rfl) (by kernel_rfl) (fun _ _ _ h => h) (Or.inl ⟨by rfl, ?_⟩) (by with_reducible exact ⟨a0, a1, b0, b1, c2, hln⟩) ?_
  rotate_left
  · intro w hSw
    try dsimp only at hSw
    go_simp
    try with_reducible rfl
  try simp only [Act.put, List.setIfInBounds_toArray, List.set_cons_zero, List.set_cons_succ]
  refine wpAnyH_take (i := 10) (oi := ({ dst := some 24, op := Op.fieldAddr 33 (Operand.tmp 6) 1, type := 0, pos := _, after := #[{ on := 9, ground := Ground.guard }], guard := some (9, false) } : Oper)) (v := ?_) rfl (by kernel_rfl) (by kernel_rfl) (by kernel_rfl) (fun _ _ _ h => h) (Or.inl ⟨by rfl, ?_⟩) (by with_reducible exact ⟨a0, a1, b0, b1, c2, hln⟩) ?_
  rotate_left
  · intro w hSw
    try dsimp only at hSw
    go_simp
    try with_reducible rfl
  try simp only [Act.put, List.setIfInBounds_toArray, List.set_cons_zero, List.set_cons_succ]
  refine wpAnyH_take (i := 11) (oi := ({ dst := some 25, op := Op.load 31 (Operand.tmp 24), type := 31, pos := _, after := #[{ on := 10, ground := Ground.data }, { on := 9, ground := Ground.guard }], guard := some (9, false) } : Oper)) (v := ?_) rfl (by kernel_rfl) (by kernel_rfl) (by kernel_rfl) (fun _ _ _ h => h) (Or.inl ⟨by rfl, ?_⟩) (by with_reducible exact ⟨a0, a1, b0, b1, c2, hln⟩) ?_
  rotate_left
  · intro w hSw
    try dsimp only at hSw
    go_simp
    try with_reducible rfl
  try simp only [Act.put, List.setIfInBounds_toArray, List.set_cons_zero, List.set_cons_succ]
  refine wpAnyH_take (i := 12) (oi := ({ dst := some 26, op := Op.fieldAddr 33 (Operand.tmp 7) 1, type := 0, pos := _, after := #[{ on := 9, ground := Ground.guard }], guard := some (9, false) } : Oper)) (v := ?_) rfl (by kernel_rfl) (by kernel_rfl) (by kernel_rfl) (fun _ _ _ h => h) (Or.inl ⟨by rfl, ?_⟩) (by with_reducible exact ⟨a0, a1, b0, b1, c2, hln⟩) ?_
  rotate_left
  · intro w hSw
    try dsimp only at hSw
    go_simp
    try with_reducible rfl
  try simp only [Act.put, List.setIfInBounds_toArray, List.set_cons_zero, List.set_cons_succ]
  refine wpAnyH_take (i := 13) (oi := ({ dst := some 27, op := Op.load 31 (Operand.tmp 26), type := 31, pos := _, after := #[{ on := 12, ground := Ground.data }, { on := 9, ground := Ground.guard }], guard := some (9, false) } : Oper)) (v := ?_) rfl (by kernel_rfl) (by kernel_rfl) (by kernel_rfl) (fun _ _ _ h => h) (Or.inl ⟨by rfl, ?_⟩) (by with_reducible exact ⟨a0, a1, b0, b1, c2, hln⟩) ?_
  rotate_left
  · intro w hSw
    try dsimp only at hSw
    go_simp
    try with_reducible rfl
  try simp only [Act.put, List.setIfInBounds_toArray, List.set_cons_zero, List.set_cons_succ]
  refine wpAnyH_take (i := 14) (oi := ({ dst := some 28, op := Op.binOp BinOp.gtr 31 (Operand.tmp 25) (Operand.tmp 27) 31, type := 4, pos := _, after := #[{ on := 11, ground := Ground.data }, { on := 13, ground := Ground.data }, { on := 9, ground := Ground.guard }], guard := some (9, false) } : Oper)) (v := ?_) rfl (by kernel_rfl) (by kernel_rfl) (by kernel_rfl) (fun _ _ _ h => h) (Or.inl ⟨by rfl, ?_⟩) (by with_reducible exact ⟨a0, a1, b0, b1, c2, hln⟩) ?_
  rotate_left
  · intro w hSw
    try dsimp only at hSw
    go_simp
    try with_reducible rfl
  try simp only [Act.put, List.setIfInBounds_toArray, List.set_cons_zero, List.set_cons_succ]
  refine wpAnyH_take (i := 15) (oi := ({ dst := some 29, op := Op.pick (Operand.tmp 23) (Operand.const (Value.bool true)) (Operand.tmp 28), type := 4, pos := _, after := #[{ on := 9, ground := Ground.data }, { on := 14, ground := Ground.data }], guard := none } : Oper)) (v := ?_) rfl (by kernel_rfl) (by kernel_rfl) (by kernel_rfl) (fun _ _ _ h => h) (Or.inl ⟨by rfl, ?_⟩) (by with_reducible exact ⟨a0, a1, b0, b1, c2, hln⟩) ?_
  rotate_left
  · intro w hSw
    try dsimp only at hSw
    go_simp
    try with_reducible rfl
  try simp only [Act.put, List.setIfInBounds_toArray, List.set_cons_zero, List.set_cons_succ]
  refine wpAnyH_take (i := 16) (oi := ({ dst := some 30, op := Op.move (Operand.tmp 29), type := 4, pos := _, after := #[{ on := 15, ground := Ground.data }, { on := 9, ground := Ground.chain }], guard := none } : Oper)) (v := ?_) rfl (by kernel_rfl) (by kernel_rfl) (by kernel_rfl) (fun _ _ _ h => h) (Or.inl ⟨by rfl, ?_⟩) (by with_reducible exact ⟨a0, a1, b0, b1, c2, hln⟩) ?_
  rotate_left
  · intro w hSw
    try dsimp only at hSw
    go_simp
    try with_reducible rfl
  try simp only [Act.put, List.setIfInBounds_toArray, List.set_cons_zero, List.set_cons_succ]
  refine wpAnyH_take (i := 17) (oi := ({ dst := some 31, op := Op.fieldAddr 33 (Operand.tmp 7) 1, type := 0, pos := _, after := #[{ on := 16, ground := Ground.guard }], guard := some (16, false) } : Oper)) (v := ?_) rfl (by kernel_rfl) (by kernel_rfl) (by kernel_rfl) (fun _ _ _ h => h) (Or.inl ⟨by rfl, ?_⟩) (by with_reducible exact ⟨a0, a1, b0, b1, c2, hln⟩) ?_
  rotate_left
  · intro w hSw
    try dsimp only at hSw
    go_simp
    try with_reducible rfl
  try simp only [Act.put, List.setIfInBounds_toArray, List.set_cons_zero, List.set_cons_succ]
  refine wpAnyH_take (i := 18) (oi := ({ dst := some 32, op := Op.load 31 (Operand.tmp 31), type := 31, pos := _, after := #[{ on := 17, ground := Ground.data }, { on := 16, ground := Ground.guard }], guard := some (16, false) } : Oper)) (v := ?_) rfl (by kernel_rfl) (by kernel_rfl) (by kernel_rfl) (fun _ _ _ h => h) (Or.inl ⟨by rfl, ?_⟩) (by with_reducible exact ⟨a0, a1, b0, b1, c2, hln⟩) ?_
  rotate_left
  · intro w hSw
    try dsimp only at hSw
    go_simp
    try with_reducible rfl
  try simp only [Act.put, List.setIfInBounds_toArray, List.set_cons_zero, List.set_cons_succ]
  refine wpAnyH_take (i := 19) (oi := ({ dst := some 33, op := Op.fieldAddr 33 (Operand.tmp 6) 1, type := 0, pos := _, after := #[{ on := 16, ground := Ground.guard }], guard := some (16, false) } : Oper)) (v := ?_) rfl (by kernel_rfl) (by kernel_rfl) (by kernel_rfl) (fun _ _ _ h => h) (Or.inl ⟨by rfl, ?_⟩) (by with_reducible exact ⟨a0, a1, b0, b1, c2, hln⟩) ?_
  rotate_left
  · intro w hSw
    try dsimp only at hSw
    go_simp
    try with_reducible rfl
  try simp only [Act.put, List.setIfInBounds_toArray, List.set_cons_zero, List.set_cons_succ]
  refine wpAnyH_take (i := 20) (oi := ({ dst := some 34, op := Op.load 31 (Operand.tmp 33), type := 31, pos := _, after := #[{ on := 19, ground := Ground.data }, { on := 16, ground := Ground.guard }], guard := some (16, false) } : Oper)) (v := ?_) rfl (by kernel_rfl) (by kernel_rfl) (by kernel_rfl) (fun _ _ _ h => h) (Or.inl ⟨by rfl, ?_⟩) (by with_reducible exact ⟨a0, a1, b0, b1, c2, hln⟩) ?_
  rotate_left
  · intro w hSw
    try dsimp only at hSw
    go_simp
    try with_reducible rfl
  try simp only [Act.put, List.setIfInBounds_toArray, List.set_cons_zero, List.set_cons_succ]
  refine wpAnyH_take (i := 21) (oi := ({ dst := some 35, op := Op.binOp BinOp.sub 31 (Operand.tmp 32) (Operand.tmp 34) 31, type := 31, pos := _, after := #[{ on := 18, ground := Ground.data }, { on := 20, ground := Ground.data }, { on := 16, ground := Ground.guard }], guard := some (16, false) } : Oper)) (v := ?_) rfl (by kernel_rfl) (by kernel_rfl) (by kernel_rfl) (fun _ _ _ h => h) (Or.inl ⟨by rfl, ?_⟩) (by with_reducible exact ⟨a0, a1, b0, b1, c2, hln⟩) ?_
  rotate_left
  · intro w hSw
    try dsimp only at hSw
    go_simp
    try with_reducible rfl
  try simp only [Act.put, List.setIfInBounds_toArray, List.set_cons_zero, List.set_cons_succ]
  refine wpAnyH_take (i := 22) (oi := ({ dst := some 36, op := Op.move (Operand.tmp 0), type := 25, pos := _, after := #[{ on := 16, ground := Ground.guard }], guard := some (16, false) } : Oper)) (v := ?_) rfl (by kernel_rfl) (by kernel_rfl) (by kernel_rfl) (fun _ _ _ h => h) (Or.inl ⟨by rfl, ?_⟩) (by with_reducible exact ⟨a0, a1, b0, b1, c2, hln⟩) ?_
  rotate_left
  · intro w hSw
    try dsimp only at hSw
    go_simp
    try with_reducible rfl
  try simp only [Act.put, List.setIfInBounds_toArray, List.set_cons_zero, List.set_cons_succ]
  refine wpAnyH_take (i := 23) (oi := ({ dst := some 37, op := Op.nilCheck (Operand.tmp 36), type := 0, pos := _, after := #[{ on := 22, ground := Ground.data }, { on := 16, ground := Ground.guard }], guard := some (16, false) } : Oper)) (v := ?_) rfl (by kernel_rfl) (by kernel_rfl) (by kernel_rfl) (fun _ _ _ h => h) (Or.inl ⟨by rfl, ?_⟩) (by with_reducible exact ⟨a0, a1, b0, b1, c2, hln⟩) ?_
  rotate_left
  · intro w hSw
    try dsimp only at hSw
    go_simp
    try with_reducible rfl
  try simp only [Act.put, List.setIfInBounds_toArray, List.set_cons_zero, List.set_cons_succ]
  refine wpAnyH_take (i := 24) (oi := ({ dst := some 38, op := Op.fieldAddr 81 (Operand.tmp 37) 2, type := 0, pos := _, after := #[{ on := 23, ground := Ground.data }, { on := 16, ground := Ground.guard }], guard := some (16, false) } : Oper)) (v := ?_) rfl (by kernel_rfl) (by kernel_rfl) (by kernel_rfl) (fun _ _ _ h => h) (Or.inl ⟨by rfl, ?_⟩) (by with_reducible exact ⟨a0, a1, b0, b1, c2, hln⟩) ?_
  rotate_left
  · intro w hSw
    try dsimp only at hSw
    go_simp
    try with_reducible rfl
  try simp only [Act.put, List.setIfInBounds_toArray, List.set_cons_zero, List.set_cons_succ]
  refine wpAnyH_take (i := 25) (oi := ({ dst := some 39, op := Op.load 76 (Operand.tmp 38), type := 76, pos := _, after := #[{ on := 24, ground := Ground.data }, { on := 16, ground := Ground.guard }], guard := some (16, false) } : Oper)) (v := ?_) rfl (by kernel_rfl) (by kernel_rfl) (by kernel_rfl) (fun _ _ _ h => h) (Or.inl ⟨by rfl, ?_⟩) (by with_reducible exact ⟨a0, a1, b0, b1, c2, hln⟩) ?_
  rotate_left
  · intro w hSw
    try dsimp only at hSw
    go_simp
    try with_reducible rfl
  try simp only [Act.put, List.setIfInBounds_toArray, List.set_cons_zero, List.set_cons_succ]
  refine wpAnyH_take (i := 26) (oi := ({ dst := some 40, op := Op.call { callee := Callee.builtin Builtin.len, args := #[Operand.tmp 39], argTypes := #[76] }, type := 3, pos := _, after := #[{ on := 25, ground := Ground.data }, { on := 16, ground := Ground.chain }, { on := 16, ground := Ground.guard }], guard := some (16, false) } : Oper)) (v := (.int .i64 N)) rfl (by kernel_rfl) (by kernel_rfl) (by kernel_rfl) (fun _ _ _ h => h) (yieldsIf_mlen (by rfl) 76 (.tmp 39) rfl (.map (some lb)) rfl _ (fun W h => h.2.2.2.2.2)) (by with_reducible exact ⟨a0, a1, b0, b1, c2, hln⟩) ?_
  try simp only [Act.put, List.setIfInBounds_toArray, List.set_cons_zero, List.set_cons_succ]
  refine wpAnyH_take (i := 27) (oi := ({ dst := some 41, op := Op.convert 3 31 (Operand.tmp 40), type := 31, pos := _, after := #[{ on := 26, ground := Ground.data }, { on := 16, ground := Ground.guard }], guard := some (16, false) } : Oper)) (v := ?_) rfl (by kernel_rfl) (by kernel_rfl) (by kernel_rfl) (fun _ _ _ h => h) (Or.inl ⟨by rfl, ?_⟩) (by with_reducible exact ⟨a0, a1, b0, b1, c2, hln⟩) ?_
  rotate_left
  · intro w hSw
    try dsimp only at hSw
    go_simp
    try with_reducible rfl
  try simp only [Act.put, List.setIfInBounds_toArray, List.set_cons_zero, List.set_cons_succ]
  refine wpAnyH_take (i := 28) (oi := ({ dst := some 42, op := Op.binOp BinOp.geq 31 (Operand.tmp 35) (Operand.tmp 41) 31, type := 4, pos := _, after := #[{ on := 21, ground := Ground.data }, { on := 27, ground := Ground.data }, { on := 16, ground := Ground.guard }], guard := some (16, false) } : Oper)) (v := ?_) rfl (by kernel_rfl) (by kernel_rfl) (by kernel_rfl) (fun _ _ _ h => h) (Or.inl ⟨by rfl, ?_⟩) (by with_reducible exact ⟨a0, a1, b0, b1, c2, hln⟩) ?_
  rotate_left
  · intro w hSw
    try dsimp only at hSw
    go_simp
    try with_reducible rfl
  try simp only [Act.put, List.setIfInBounds_toArray, List.set_cons_zero, List.set_cons_succ]
  refine wpAnyH_take (i := 29) (oi := ({ dst := some 43, op := Op.pick (Operand.tmp 30) (Operand.const (Value.bool true)) (Operand.tmp 42), type := 4, pos := _, after := #[{ on := 16, ground := Ground.data }, { on := 28, ground := Ground.data }], guard := none } : Oper)) (v := ?_) rfl (by kernel_rfl) (by kernel_rfl) (by kernel_rfl) (fun _ _ _ h => h) (Or.inl ⟨by rfl, ?_⟩) (by with_reducible exact ⟨a0, a1, b0, b1, c2, hln⟩) ?_
  rotate_left
  · intro w hSw
    try dsimp only at hSw
    go_simp
    try with_reducible rfl
  try simp only [Act.put, List.setIfInBounds_toArray, List.set_cons_zero, List.set_cons_succ]
  refine wpAnyH_done (by kernel_rfl) ?_ _
  go_upto_region 4 with fail
  refine wp_world (fun wz => HS wz B sb lb zb tb room s ∧ Blk wz w.heap.size 33 #[.int .u64 g, .int .u64 n] ∧ Blk wz (w.heap.size + 1) 33 #[.int .u64 g, .int .u64 n2] ∧ RdF wz (.slice vA l.length vc) l ∧ Below w.heap.size w wz) ⟨hHd, hP, hQ, hv, below_drewN hb 1⟩ ?_
  clear hH hP hQ hv hb a0 a1 b0 b1 hHd c2 hln
  rintro w2 ⟨hH, hP, hQ, hv, hb⟩
  have a0 : World.cell? w2 ⟨w.heap.size, 0, none⟩ = some (.int .u64 g) := hP.cell 0
  have a1 : World.cell? w2 ⟨w.heap.size, 1, none⟩ = some (.int .u64 n) := hP.cell 1
  have b1 : World.cell? w2 ⟨w.heap.size + 1, 1, none⟩ = some (.int .u64 n2) := hQ.cell 1
  have hM := HMM.out
  have hw3 : IntKind.u64.wrap (n2 - n + 1) = M := by rw [IntKind.wrap_u64, hM]; omega
  have hMb : (M : Int) ≤ 70000 := by omega
  clear hM
  go_upto_block 0 with fail
  clear hw1 hw2 hw3 hdl hd hdn hd2 a0 a1 b1 hQ
  go_wp2_with fail
  go_loopg [10, 50] M (fun gk s10 s50 wr => ∃ (k : Nat) (LV : List (En × Value)), gk = M - k ∧ k ≤ M ∧ s50 = .int .u64 k ∧ pcol s l g n k = some (LV.map (·.1)) ∧ LV.length = k ∧ OW wr w.heap.size s10 LV ∧ HS wr B sb lb zb tb room s ∧ Blk wr w.heap.size 33 #[.int .u64 g, .int .u64 n] ∧ RdF wr (.slice vA l.length vc) l ∧ Below w.heap.size w wr)
  case atStart => exact ⟨0, [], rfl, Nat.zero_le _, rfl, rfl, rfl, OW.nil _ _, hH, hP, hv, hb⟩
  case round =>
    clear hH hP hv hb
    obtain ⟨k, LV, hgk, hkM, rfl, hpc, hLk, hW, hH, hP, hv, hb⟩ := hrel
    have HPC := Lib.hid hpc
    clear hpc
    have HLK := Lib.hid hLk
    have hrow := hW.row
    rw [hLk] at hrow
    clear hLk
    obtain ⟨rA, rc, rfl, _⟩ := sl_of_own hrow
    clear hrow
    by_cases hlt : k < M
    · have a0 : World.cell? wr ⟨w.heap.size, 0, none⟩ = some (.int .u64 g) := hP.cell 0
      have a1 : World.cell? wr ⟨w.heap.size, 1, none⟩ = some (.int .u64 n) := hP.cell 1
      have hnk : n + (k : Int) ≤ 18446744073709551615 := by have := HMM.out; have := hU.2; omega
      have hwk : IntKind.u64.wrap (n + (k : Int)) = n + (k : Int) := by rw [IntKind.wrap_u64]; have := hU.1; omega
      have hwk1 : IntKind.u64.wrap ((k : Int) + 1) = (k : Int) + 1 := by rw [IntKind.wrap_u64]; omega
      have hkM : decide ((k : Int) < (M : Int)) = true := decide_eq_true (by omega)
      have hR1 : Rd wr .u8 (.slice vA l.length vc) l := hv.1
      cases hpg : pget s l g (n + k) with
      | none =>
        have hget := get_any B sb lb zb tb (.slice vA l.length vc) room g (n + k) l s wr hH hR1 hk hll hg ⟨by have := hU.1; omega, hnk⟩ HOK.out hroom 0 0 0 [] false (by rw [hpg]; rfl)
        have hN : pcol s l g n M = none := pcol_none (k := k + 1) (by rw [pcol, HPC.out]; simp [hpg]) M (by omega)
        have HNN := Lib.hid hN
        clear hpg hN
        go_wp2_with (first | (go_at_call 13; (with_reducible refine hget.mono ?_); clear hget; rintro e w3 ⟨dv, rfl, ho, hH3, hb3⟩; obtain ⟨cA, cc, rfl, _⟩ := sl_of_own ho) | fail)
        refine bodyPost_ret (results_tmp2 rfl _ _ _) rfl ?_
        rw [HNN.out]
        exact ⟨hH3.kept ((Below.refl _ _).alloc (Nat.le_refl _) _), (hb.trans (hb3.mono hb.size)).alloc (Nat.le_trans hb.size hb3.size) _, rfl⟩
      | some y =>
        have hget := get_any B sb lb zb tb (.slice vA l.length vc) room g (n + k) l s wr hH hR1 hk hll hg ⟨by have := hU.1; omega, hnk⟩ HOK.out hroom y.g y.n y.p y.d true (by rw [hpg]; rfl)
        have hN : pcol s l g n (k + 1) = some (LV.map (·.1) ++ [y]) := by rw [pcol, HPC.out]; simp [hpg]
        have HNN := Lib.hid hN
        clear hpg hN
        go_upto_region 10 with (first | (go_at_call 13; (with_reducible refine hget.mono ?_); clear hget; rintro e w3 ⟨dv, rfl, ho, hH3, hb3⟩; obtain ⟨cA, cc, rfl, _⟩ := sl_of_own ho) | fail)
        have hba : Below w3.heap.size w3 (w3.alloc (.cells #[.int .u64 y.g, .int .u64 y.n, .int .u8 y.p, .bool false, .slice cA y.d.length cc] 35)) := (Below.refl _ _).alloc (Nat.le_refl _) _
        have hb03 := hb.trans (hb3.mono hb.size)
        refine wp_world (fun wz => HS wz B sb lb zb tb room s ∧ OW wz w.heap.size (.slice rA k rc) LV ∧ Blk wz w.heap.size 33 #[.int .u64 g, .int .u64 n] ∧ RdF wz (.slice vA l.length vc) l ∧ Blk wz w3.heap.size 35 #[.int .u64 y.g, .int .u64 y.n, .int .u8 y.p, .bool false, .slice cA y.d.length cc] ∧ RdT wz (.slice cA y.d.length cc) y.d ∧ Below w.heap.size w wz) ⟨hH3.kept hba, (hW.below hb3).below hba, (hP.same hb3).same hba, (hv.below hb3).below hba, Blk.new w3 35 #[.int .u64 y.g, .int .u64 y.n, .int .u8 y.p, .bool false, .slice cA y.d.length cc], (rdt_of_own ho).below hba, hb03.trans (hba.mono hb03.size)⟩ ?_
        obtain ⟨ob, hob⟩ : ∃ ob, ob = w3.heap.size := ⟨_, rfl⟩
        rw [← hob]
        clear hH hW hP hv hb hH3 hb3 ho hba hb03 hob a0 a1 hR1
        rintro w4 ⟨hH, hW, hP, hv, hO, hD, hb⟩
        have y0 : World.cell? w4 ⟨ob, 0, none⟩ = some (.int .u64 y.g) := hO.cell 0
        have y1 : World.cell? w4 ⟨ob, 1, none⟩ = some (.int .u64 y.n) := hO.cell 1
        have y2 : World.cell? w4 ⟨ob, 2, none⟩ = some (.int .u8 y.p) := hO.cell 2
        have y3 : World.cell? w4 ⟨ob, 3, none⟩ = some (.bool false) := hO.cell 3
        have y4 : World.cell? w4 ⟨ob, 4, none⟩ = some (.slice cA y.d.length cc) := hO.cell 4
        have hba : Below w4.heap.size w4 (w4.alloc (.cells #[.int .u64 y.g, .int .u64 y.n, .int .u8 y.p, .bool false, .slice cA y.d.length cc] 35)) := (Below.refl _ _).alloc (Nat.le_refl _) _
        have hr5 := rdv_ob (Blk.new w4 35 #[.int .u64 y.g, .int .u64 y.n, .int .u8 y.p, .bool false, .slice cA y.d.length cc])
        have hW5 : (w4.alloc (.cells #[.int .u64 y.g, .int .u64 y.n, .int .u8 y.p, .bool false, .slice cA y.d.length cc] 35)).ownsRow w.heap.size 35 5 (.slice rA k rc) k (flat5 LV) := by have h := (hW.below hba).row; rw [HLK.out] at h; exact h
        have hb5 := hb.trans (hba.mono hb.size)
        go_upto_region 11 with (first | (at_builtin; refine wpList_append_any _ rfl _ _ 44 rfl w.heap.size 35 i0 _ 5 48 Try.underlying44 hi hz0 hz1 hz2 rfl (by decide) (.slice rA k rc) k (flat5 LV) rfl hW5 (some ⟨w4.heap.size, 0, none⟩) 1 1 _ rfl hr5 (oc5_one _ _ _ _ _ _) (by unfold maxLen; omega) (by omega) hb5.size (by simp) ?_; intro v6 w6 hown6 hgrow6 hat6) | fail)
        obtain ⟨rA6, rc6, rfl, _⟩ := sl_of_own hown6
        have hH6 := (hH.kept hba).own hW5 hgrow6 (by decide) (by decide) (by decide)
        have hP6 := ((hP.same hba).grown hgrow6 (fun e => own_blk_ne hW5 (hP.same hba) (by decide) e.symm))
        have hv6 : RdF w6 (.slice vA l.length vc) l := (hv.below hba).own hW5 hgrow6 (by decide)
        have hW6 : OW w6 w.heap.size (.slice rA6 (k + 1) rc6) (LV ++ [(y, .slice cA y.d.length cc)]) := ⟨by rw [List.length_append, HLK.out, flat5_app]; exact hown6, fun z hz => by
          rcases List.mem_append.1 hz with hz | hz
          · exact rdt_own ((hW.dat z hz).below hba) hW5 hgrow6 (by decide)
          · simp only [List.mem_singleton] at hz
            subst hz
            exact rdt_own (hD.below hba) hW5 hgrow6 (by decide)⟩
        have hb6 := hb5.grown hgrow6 hb5.size (fun b hb => own_ge hW5 hb)
        clear hH hW hP hv hO hD hb y0 y1 y2 y3 y4 hba hr5 hW5 hb5 hown6 hgrow6 hat6
        go_wp2_with fail
        go_roundg (M - (k + 1))
        case measure => omega
        case rel => exact ⟨k + 1, LV ++ [(y, .slice cA y.d.length cc)], rfl, by omega, by go_num, by rw [List.map_append]; exact HNN.out, by rw [List.length_append, HLK.out]; rfl, hW6, hH6, hP6, hv6, hb6⟩
    · obtain rfl : k = M := by omega
      go_wp2_with fail
      refine bodyPost_ret (results_tmp2 rfl _ _ _) rfl ?_
      rw [HPC.out]
      exact ⟨hH, hb, _, LV, rfl, rfl, hW⟩
theorem run_any (B sb lb zb tb : Nat) (v : Value) (room g n g2 n2 : Int) (l : List Int) (s : PS) (w : World) (hH : HS w B sb lb zb tb room s) (hv : RdF w v l) (hk : BytesOk l) (hll : l.length ≤ 1000000) (hg : U64 g) (hn : U64 n) (hg2 : U64 g2) (hn2 : U64 n2) (hok : s.Ok room) (hroom : room ≤ 1048576) :
    Calls Try.prog 17 #[.pointer (some ⟨sb, 0, none⟩), v, .agg #[.int .u64 g, .int .u64 n], .agg #[.int .u64 g2, .int .u64 n2]] w fun e w' => HS w' B sb lb zb tb room s ∧ Below w.heap.size w w' ∧ RunOut w.heap.size w' (prun s l g n g2 n2) e := by
  by_cases h1 : g = g2
  · subst h1
    by_cases h2 : n2 < n
    · have e1 : prun s l g n g n2 = none := by unfold prun; rw [if_pos (.inr (.inl h2))]
      refine (run_back B sb lb zb tb v room g n n2 l s w hH hv hk hll hg hn hn2 h2).mono ?_
      rintro e w' ⟨rfl, h3, h4⟩
      rw [e1]
      exact ⟨h3, h4, rfl⟩
    · by_cases h3 : (s.E.length : Int) ≤ n2 - n
      · have e1 : prun s l g n g n2 = none := by unfold prun; rw [if_pos (.inr (.inr h3))]
        refine (run_long B sb lb zb tb v room g n n2 l s w hH hv hk hll hg hn hn2 (by omega) h3).mono ?_
        rintro e w' ⟨rfl, h4, h5⟩
        rw [e1]
        exact ⟨h4, h5, rfl⟩
      · have e1 : prun s l g n g n2 = pcol s l g n (n2 - n + 1).toNat := by unfold prun; rw [if_neg]; rintro (h | h | h); exact h rfl; exact h2 h; exact h3 h
        rw [e1]
        exact run_main B sb lb zb tb v room g n n2 l s w hH hv hk hll hg hn hn2 hok hroom (by omega) (by omega) _ (by omega)
  · have e1 : prun s l g n g2 n2 = none := by unfold prun; rw [if_pos (.inl h1)]
    refine (run_group B sb lb zb tb v room g n g2 n2 l s w hH hv hk hll hg hn hg2 hn2 h1).mono ?_
    rintro e w' ⟨rfl, h3, h4⟩
    rw [e1]
    exact ⟨h3, h4, rfl⟩
/-- What is told has each of the places. -/
theorem pcol_at {s : PS} {l : List Int} {g n : Int} : ∀ {k : Nat} {L : List En}, pcol s l g n k = some L → ∀ i (hi : i < L.length), pget s l g (n + i) = some L[i]
  | 0, L, h, i, hi => by simp [pcol] at h; subst h; simp at hi
  | k + 1, L, h, i, hi => by
    rw [pcol] at h
    cases e : pcol s l g n k with
    | none => rw [e] at h; cases h
    | some M =>
      rw [e] at h
      simp only [Option.bind_some, Option.map_eq_some_iff] at h
      obtain ⟨y, h1, rfl⟩ := h
      have hM := pcol_len e
      by_cases hik : i < M.length
      · rw [List.getElem_append_left hik]; exact pcol_at e i hik
      · rw [List.length_append] at hi
        simp only [List.length_cons, List.length_nil] at hi
        have hik' : i = k := by omega
        subst hik'
        rw [List.getElem_append_right (by omega), h1]
        simp
theorem pcol_all {s : PS} {l : List Int} {g n : Int} : ∀ {k : Nat}, (∀ i < k, (pget s l g (n + i)).isSome = true) → ∃ L, pcol s l g n k = some L
  | 0, _ => ⟨[], rfl⟩
  | k + 1, h => by
    obtain ⟨L, hL⟩ := pcol_all (k := k) (fun i hi => h i (by omega))
    obtain ⟨y, hy⟩ := Option.isSome_iff_exists.1 (h k (by omega))
    exact ⟨L ++ [y], by rw [pcol, hL, hy]; rfl⟩
theorem filter_lt {α : Type} {P Q : α → Bool} : ∀ {E : List α}, (∀ x, P x = true → Q x = true) → (∃ x ∈ E, Q x = true ∧ P x = false) → (E.filter P).length < (E.filter Q).length
  | [], _, h => by obtain ⟨x, hx, _⟩ := h; cases hx
  | a :: E, hpq, h => by
    have hle : ∀ F : List α, (F.filter P).length ≤ (F.filter Q).length := fun F => by
      induction F with
      | nil => simp
      | cons b F ih =>
        rw [List.filter_cons, List.filter_cons]
        by_cases hb : P b = true
        · rw [if_pos hb, if_pos (hpq b hb)]; simp only [List.length_cons]; omega
        · rw [if_neg hb]; split <;> (try simp only [List.length_cons]) <;> omega
    obtain ⟨x, hx, hq, hp⟩ := h
    rw [List.filter_cons, List.filter_cons]
    rcases List.mem_cons.1 hx with e | hx
    · subst e
      rw [if_pos hq, if_neg (by rw [hp]; decide)]
      have := hle E
      simp only [List.length_cons]
      omega
    · have ih := filter_lt (E := E) hpq ⟨x, hx, hq, hp⟩
      by_cases hb : P a = true
      · rw [if_pos hb, if_pos (hpq a hb)]; simp only [List.length_cons]; omega
      · rw [if_neg hb]; split <;> (try simp only [List.length_cons]) <;> omega
theorem all_len {s : PS} {l : List Int} {g n : Int} : ∀ {k : Nat}, (∀ i < k, (pget s l g (n + i)).isSome = true) → k ≤ (s.E.filter (fun e => decide (n ≤ e.n ∧ e.n < n + k))).length
  | 0, _ => Nat.zero_le _
  | k + 1, h => by
    have ih := all_len (k := k) (fun i hi => h i (by omega))
    obtain ⟨y, hy⟩ := Option.isSome_iff_exists.1 (h k (by omega))
    have hy2 : y ∈ s.E ∧ y.n = n + k := by
      unfold pget at hy
      split at hy
      · cases hy
      · obtain ⟨h1, h2⟩ := eget_some hy
        exact ⟨h1, h2.2.2⟩
    have := filter_lt (E := s.E) (P := fun e => decide (n ≤ e.n ∧ e.n < n + (k : Int))) (Q := fun e => decide (n ≤ e.n ∧ e.n < n + ((k + 1 : Nat) : Int))) (fun x hx => by simp only [decide_eq_true_eq] at hx ⊢; omega) ⟨y, hy2.1, by simp only [decide_eq_true_eq]; omega, by simp only [decide_eq_false_iff_not]; omega⟩
    omega
theorem prun_all {s : PS} {l : List Int} {g n : Int} {m : Nat} (h : ∀ i < m + 1, (pget s l g (n + i)).isSome = true) : ∃ L, prun s l g n g (n + m) = some L := by
  have h1 := all_len h
  have h2 : (s.E.filter (fun e => decide (n ≤ e.n ∧ e.n < n + ((m + 1 : Nat) : Int)))).length ≤ s.E.length := List.length_filter_le _ _
  obtain ⟨L, hL⟩ := pcol_all h
  refine ⟨L, ?_⟩
  unfold prun
  rw [if_neg (by rintro (h | h | h); exact h rfl; omega; omega), show (n + (m : Int) - n + 1).toNat = m + 1 by omega]
  exact hL
theorem prun_some {s : PS} {l : List Int} {g n : Int} {m : Nat} {L : List En} (h : prun s l g n g (n + m) = some L) : L.length = m + 1 ∧ ∀ i (hi : i < L.length), pget s l g (n + i) = some L[i] := by
  unfold prun at h
  split at h
  · cases h
  · rw [show (n + (m : Int) - n + 1).toNat = m + 1 by omega] at h
    exact ⟨pcol_len h, pcol_at h⟩

end Go.Proofs.Ytiaabbflchdcbaa
