/-
  A pen: what it holds; num.
  Plain helpers.
  bytes.Join of three parts, without a separator.
-/
import Derived.Test.YtjijmbpgfabgcaaDoorZC
import Derived.Test.YtjijmbpgfabgcaaDoorZD
import Derived.Test.YtjijmbpgfabgcaaDoorZA
import Derived.Lib.MakeNoZero
import Derived.Lib.SlBuf
import Derived.Laws.CopyRow
namespace Go.Proofs.YtjijmbpgfabgcaaDoor
open Go.RowKit
set_option linter.unusedVariables false
set_option linter.unusedSimpArgs false

/-- A pen at pb holds l; what it owns lies from B on. -/
def Pen (B : Nat) (w : World) (pb : Nat) (l : List Int) : Prop := B ≤ pb ∧ ∃ pv, Blk w pb 63 #[pv] ∧ w.ownsRow B 5 1 pv l.length (l.map (Value.int .u8))
/-- What lies below B stays, and each block that is no pen's and no bytes'. -/
def PenK (B : Nat) (w w' : World) : Prop := Below B w w' ∧ B ≤ w.heap.size ∧ w.heap.size ≤ w'.heap.size ∧ ∀ g t cs, Blk w g t cs → t ≠ 63 → t ≠ 5 → Blk w' g t cs
theorem PenK.refl {B : Nat} {w : World} (h : B ≤ w.heap.size) : PenK B w w := ⟨Below.refl _ _, h, Nat.le_refl _, fun _ _ _ h _ _ => h⟩
theorem PenK.trans {B : Nat} {a b c : World} (h : PenK B a b) (k : PenK B b c) : PenK B a c := ⟨h.1.trans k.1, h.2.1, Nat.le_trans h.2.2.1 k.2.2.1, fun g t cs x n m => k.2.2.2 g t cs (h.2.2.2 g t cs x n m) n m⟩
theorem PenK.same {B : Nat} {w w' : World} (h : Below w.heap.size w w') (hB : B ≤ w.heap.size) : PenK B w w' := ⟨h.mono hB, hB, h.size, fun g t cs x _ _ => x.same h⟩
theorem PenK.alloc {B : Nat} {a w : World} (h : PenK B a w) (o : Obj) : PenK B a (w.alloc o) := h.trans (PenK.same ((Below.refl _ _).alloc (Nat.le_refl _) o) (Nat.le_trans h.2.1 h.2.2.1))
theorem PenK.drew {B : Nat} {a w : World} (h : PenK B a w) : PenK B a w.drew := ⟨below_drewN h.1 1, h.2.1, h.2.2.1, h.2.2.2⟩
theorem PenK.drewN {B : Nat} {a w : World} (h : PenK B a w) (n : Nat) : PenK B a (w.drewN n) := ⟨below_drewN h.1 n, h.2.1, h.2.2.1, h.2.2.2⟩
theorem Pen.same {B pb : Nat} {w w' : World} {l : List Int} (h : Pen B w pb l) (hb : Below w.heap.size w w') : Pen B w' pb l := by
  obtain ⟨h0, pv, h1, h2⟩ := h
  exact ⟨h0, pv, h1.same hb, own_same h2 hb⟩
theorem Pen.alloc {B pb : Nat} {w : World} {l : List Int} (h : Pen B w pb l) (o : Obj) : Pen B (w.alloc o) pb l := h.same ((Below.refl _ _).alloc (Nat.le_refl _) o)
theorem Pen.drew {B pb : Nat} {w : World} {l : List Int} (h : Pen B w pb l) : Pen B w.drew pb l := h
theorem penk_grown {B : Nat} {a w w' : World} {pv : Value} {l : List Int} (h : PenK B a w) (ho : w.ownsRow B 5 1 pv l.length (l.map (Value.int .u8))) (hg : w.grownBy w' pv.ownBlock) : PenK B a w' :=
  h.trans ⟨below_of_grown hg (Nat.le_trans h.2.1 h.2.2.1) (fun b hb => (ho.lt b hb).1), Nat.le_trans h.2.1 h.2.2.1, hg.size, fun g t cs x _ n5 => x.grown hg (fun e => own_blk_ne ho x (Ne.symm n5) e.symm)⟩
theorem penk_set {B pb : Nat} {a w : World} {u : Array Value} (h : PenK B a w) (hb : Blk w pb 63 u) (hB : B ≤ pb) (i : Nat) (v : Value) : PenK B a (w.setCell ⟨pb, i, none⟩ v) :=
  h.trans ⟨(Below.refl _ _).setCell hB _, Nat.le_trans h.2.1 h.2.2.1, by simp, fun g t cs x n63 _ => x.far (p := ⟨pb, i, none⟩) (hb.ne_ x (Ne.symm n63)).symm v⟩
/-- Behind an append and the store: the pen holds more. -/
theorem pen_put {B pb : Nat} {w : World} {u0 v : Value} {l : List Int} (hb : Blk w pb 63 #[u0]) (hB : B ≤ pb) (ho : w.ownsRow B 5 1 v l.length (l.map (Value.int .u8))) : Pen B (w.setCell ⟨pb, 0, none⟩ v) pb l :=
  ⟨hB, v, by simpa using hb.set_ 0 v, own_far ho (own_blk_ne ho hb (by decide)) _⟩
set_option maxHeartbeats 4000000 in
set_option maxRecDepth 100000 in
theorem pnum (B pb : Nat) (l ns : List Int) (A : Option Addr) (n c : Nat) (w : World) (hP : Pen B w pb l) (hBs : B ≤ w.heap.size) (hv : ∀ w', PenK B w w' → Rd w' .u64 (.slice A n c) ns) (hl : l.length ≤ 1000000) (hn : ns.length ≤ 20) (ha : AllN ns) (hf : FitN ns) :
    Calls Tryd.prog 44 #[.pointer (some ⟨pb, 0, none⟩), .slice A n c] w fun e w' => e = .returned (.tuple #[]) ∧ Pen B w' pb (l ++ joinN ns) ∧ PenK B w w' := by
  obtain ⟨i0, hi, hz0, hz1, hz2⟩ := info_parts infoB
  have HV := Lib.hid hv
  have HA := Lib.hid ha
  have HF := Lib.hid hf
  have hnl := (hv w (PenK.refl hBs)).rdv.1
  subst hnl
  clear hv ha hf
  go_enter Tryd.func44, Tryd.ntmps44
  go_wp2_with fail
  go_loopw [10] (fun i wr => ∃ k : Nat, k ≤ ns.length ∧ i = .int .i64 k ∧ Pen B wr pb (l ++ joinN (ns.take k)) ∧ PenK B w wr) (fun i _ => ns.length - (intOf i).toNat)
  case atStart => exact ⟨0, Nat.zero_le _, rfl, by simpa [joinN] using hP, PenK.refl hBs⟩
  case round =>
    obtain ⟨k, hkl, rfl, hPk, hK⟩ := hrel
    by_cases hlt : k < ns.length
    · obtain ⟨b, off, rfl, hb, c0⟩ := (HV.out wr hK).at_ k hlt
      have hjt := joinN_take ns k hlt
      have hjl := joinN_len (ns.take k) (fun x hx => HF.out x (List.mem_of_mem_take hx))
      have hxm : ns.getD k 0 ∈ ns := by rw [show ns.getD k 0 = ns[k] by simp [List.getD, hlt]]; exact List.getElem_mem hlt
      have hx1 := HA.out _ hxm
      have hx2 := HF.out _ hxm
      rw [List.length_take] at hjl
      obtain ⟨x, hx⟩ : ∃ x, x = ns.getD k 0 := ⟨_, rfl⟩
      rw [← hx] at c0 hjt hx1 hx2
      have hJl : (l ++ joinN (ns.take k)).length ≤ 1000200 := by rw [List.length_append]; omega
      obtain ⟨J, hJ⟩ : ∃ J, J = l ++ joinN (ns.take k) := ⟨_, rfl⟩
      rw [← hJ] at hPk hJl
      have hjt2 : l ++ joinN (ns.take (k + 1)) = J ++ vform x (vsz x) := by rw [hjt, hJ, List.append_assoc]
      have HJ := Lib.hid hjt2
      have hf8 := vf_len x hx2
      have hBr := Nat.le_trans hK.2.1 hK.2.2.1
      clear hx hJ hjt hjt2 hxm hjl
      go_wp2_with fail
      (with_reducible refine (num_any x _ hx1.1 hx1.2 hx2).mono ?_)
      rintro e w1 ⟨v1, rfl, ho, hb1⟩
      obtain ⟨hBp, pv, hO1, hop1⟩ := hPk.same hb1
      have hK1 := hK.trans (PenK.same hb1 hBr)
      obtain ⟨q, hq⟩ : ∃ q, q = vform x (vsz x) := ⟨_, rfl⟩
      rw [← hq] at ho hf8 HJ
      have r1 := rd_of_own ho
      obtain ⟨A1, cap1, rfl⟩ := r1.form
      have H1 := Lib.hid r1.rdv
      have hBs1 := Nat.le_trans hBr hb1.size
      have c1 : w1.cell? ⟨pb, 0, none⟩ = some pv := hO1.cell 0
      clear hq r1 ho hb1 hPk
      go_wp2_with (at_builtin; refine wpList_append_any _ rfl _ _ 23 rfl B 5 i0 _ 1 1 Tryd.underlying23 hi hz0 hz1 hz2 rfl (by decide) pv J.length _ rfl hop1 A1 q.length cap1 _ rfl H1.out.2.2.2.2 (oneInts _ _) (by unfold maxLen; omega) (by omega) hBs1 H1.out.2.1 ?_; intro v4 w4 hown4 hgrow4 hat4; obtain ⟨A4, c4, rfl, _⟩ := sl_of_own hown4; have hO4 : Blk w4 pb 63 #[pv] := hO1.grown hgrow4 (Ne.symm (own_blk_ne hop1 hO1 (by decide))); have d4 : w4.cell? ⟨pb, 0, none⟩ = some pv := hO4.cell 0; have f4 := hO4.frozen 0)
      have hown5 : w4.ownsRow B 5 1 (.slice A4 (J.length + q.length) c4) (J ++ q).length ((J ++ q).map (Value.int .u8)) := by rw [List.length_append, List.map_append]; exact hown4
      go_roundw
      case rel => exact ⟨k + 1, by omega, by go_num, by rw [HJ.out]; exact pen_put hO4 hBp hown5, penk_set (penk_grown hK1 hop1 hgrow4) hO4 hBp 0 _⟩
      case measure => simp [intOf]; omega
    · have htk : ns.take k = ns := List.take_of_length_le (by omega)
      rw [htk] at hPk
      clear htk
      go_wp2_with fail
      (first | go_end0 | ((try simp only [Exit.inBlock, Exit.then]); refine bodyPost_ret (results_none rfl _ _ _) rfl ?_))
      exact ⟨rfl, hPk, hK⟩

end Go.Proofs.YtjijmbpgfabgcaaDoor
namespace Go.Proofs.YtjijmbpgfabgcaaDoor
open Go.RowKit
set_option linter.unusedVariables false
set_option linter.unusedSimpArgs false

theorem PenK.sz {B : Nat} {a w : World} (h : PenK B a w) : B ≤ w.heap.size := Nat.le_trans h.2.1 h.2.2.1
theorem PenK.kept {B : Nat} {a w : World} {g : Nat} {t : TypeId} {cs : Array Value} (h : PenK B a w) (x : Blk a g t cs) (h1 : t ≠ 63) (h2 : t ≠ 5) : Blk w g t cs := h.2.2.2 g t cs x h1 h2
theorem pk_lit {B : Nat} {w w' : World} {n : Nat} (l : List Int) (hn : n = w.heap.size) (hk : PenK B (w.alloc (.cells (l.map (Value.int .u64)).toArray 22)) w') (hl : l.length ≤ 100) (h0 : 0 < l.length) : Rd w' .u64 (.slice (some ⟨n, 0, none⟩) l.length l.length) l := by
  subst hn
  have h := rd_lit w l hl
  have hb := Blk.new w 22 (l.map (Value.int .u64)).toArray
  have hb' := hk.2.2.2 _ _ _ hb (by decide) (by decide)
  refine ⟨_, _, rfl, Nat.le_refl _, by unfold maxLen; omega, (fun e => nomatch e), (fun i hi => ⟨w.heap.size, 0, rfl, hb'.lt, (fun j hj => ?_)⟩)⟩
  obtain rfl : j = 0 := by omega
  have := hb'.cell (0 + (i * 1 + 0))
  rw [this]
  simp [List.getD, hi]
def b01 (b : Bool) : Int := if b = true then 1 else 0
theorem rdv_lit1 (w : World) (a : Value) : RdV (w.alloc (.cells #[a] 5)) 1 (some ⟨w.heap.size, 0, none⟩) 1 [a] :=
  (mid_of_own (World.ownsRow_lit (size := 1) (e := 5) w #[a] 1 (Nat.le_refl _) (by decide) rfl)).rdv.1
theorem an1 {a : Int} (h : 0 ≤ a ∧ a ≤ 18446744073709551615) : AllN [a] := by intro x hx; simp at hx; subst hx; exact h
theorem an2 {a b : Int} (h : 0 ≤ a ∧ a ≤ 18446744073709551615) (k : 0 ≤ b ∧ b ≤ 18446744073709551615) : AllN [a, b] := by intro x hx; simp at hx; rcases hx with rfl | rfl <;> assumption
theorem fn1 {a : Int} (h : vsz a ≠ 0) : FitN [a] := by intro x hx; simp at hx; subst hx; exact h
theorem fn2 {a b : Int} (h : vsz a ≠ 0) (k : vsz b ≠ 0) : FitN [a, b] := by intro x hx; simp at hx; rcases hx with rfl | rfl <;> assumption

end Go.Proofs.YtjijmbpgfabgcaaDoor
namespace Go.Proofs.YtjijmbpgfabgcaaDoor
open Go.RowKit
set_option linter.unusedVariables false
set_option linter.unusedSimpArgs false

/-- copy of bytes that are read, into the block g. -/
theorem run_copy_rd {P : Program} {w : World} (dT ty : TypeId) (elem : TypeId) (hu : P.underlying dT = some (.slice elem)) (hz : (P.info? elem).map (·.size) = some 1) (g o dLen dCap : Nat) (A : Option Addr) (m c : Nat) (l : List Int) (cur : List Value) (T : TypeId)
    (hr : Rd w .u8 (.slice A m c) l) (hg : Blk w g T cur.toArray) (hd : l.length ≤ dLen) (hfit : o + l.length ≤ cur.length) :
    (Builtin.copy_ #[dT, dT] ty #[.slice (some ⟨g, o, none⟩) dLen dCap, .slice A m c]).run P w = .ok (goInt l.length) (w.setRow g (spl cur o (l.map (Value.int .u8))).toArray) := by
  obtain ⟨hm, hA, hc, hcm, hrv⟩ := hr.rdv
  subst hm
  cases A with
  | none =>
    have hl : l = [] := List.eq_nil_of_length_eq_zero (hA rfl)
    subst hl
    have e : spl cur o (([] : List Int).map (Value.int .u8)) = cur := by simp [spl]
    rw [e]
    cases hq : P.info? elem with
    | none => simp [hq] at hz
    | some i => simp [Builtin.copy_, run_underlying hu, Builtin.lenOf, Builtin.firstCells, sizeOf, typeInfo, hq, storeCells, setRow_self w g cur.toArray T (0, 0) hg]
  | some a =>
    have hmin : Nat.min l.length dLen = l.length := Nat.min_eq_left hd
    have := run_copy_wide (P := P) dT dT ty elem 1 g o dLen dCap a l.length c cur T (l.map (Value.int .u8)) hu hz hg (by rw [hmin]; simp) (fun j v hj => by
      have hj' : j < l.length := by have := (List.getElem?_eq_some_iff.1 hj).1; simpa using this
      obtain ⟨b, off, e, _, hcell⟩ := hr.at_ j hj'
      injection e with e
      subst e
      rw [addr_add, hcell, ← hj]
      simp [List.getD, hj']) (by simpa using hfit) (oneInts _ _)
    rw [hmin] at this
    exact this
theorem wpList_copy_rd {P : Program} {w : World} {ops : Array Oper} {rest : List Oper} {o : Oper} {a : Act} {Q : Exit → Act → World → Prop} (hgd : o.guard = none) (d s : Operand) (t : TypeId) (ho : o.op = .call { callee := .builtin .copy, args := #[d, s], argTypes := #[t, t] })
    (elem : TypeId) (hu : P.underlying t = some (.slice elem)) (hz : (P.info? elem).map (·.size) = some 1) (g off dLen dCap : Nat) (A : Option Addr) (m c : Nat) (l : List Int) (cur : List Value) (T : TypeId)
    (hd : a.eval d = .slice (some ⟨g, off, none⟩) dLen dCap) (hs : a.eval s = .slice A m c) (hr : Rd w .u8 (.slice A m c) l) (hg : Blk w g T cur.toArray) (hl : l.length ≤ dLen) (hfit : off + l.length ≤ cur.length)
    (h : ∀ w', Blk w' g T (spl cur off (l.map (Value.int .u8))).toArray → w.grownBy w' (some g) → wpList P ops Q rest (a.put o.dst (goInt l.length)) w') : wpList P ops Q (o :: rest) a w :=
  wpList_plain hgd fun _ hK => wp_copy_w d s t t ho _ _ hd hs (run_copy_rd t o.type elem hu hz g off dLen dCap A m c l cur T hr hg hl hfit) (hK _ _ (h _ hg.setRow (grown_setRow w g _)))
theorem run_copy_tl {P : Program} {w : World} (dT ty : TypeId) (elem : TypeId) (hu : P.underlying dT = some (.slice elem)) (hz : (P.info? elem).map (·.size) = some 1) (g o N : Nat) (A : Option Addr) (m c : Nat) (l : List Int) (cur : List Value) (T : TypeId)
    (hr : Rd w .u8 (.slice A m c) l) (hg : Blk w g T cur.toArray) (hd : o + l.length ≤ N) (hfit : N ≤ cur.length) :
    (Builtin.copy_ #[dT, dT] ty #[Lib.tailV g N o, .slice A m c]).run P w = .ok (goInt l.length) (w.setRow g (spl cur o (l.map (Value.int .u8))).toArray) := by
  unfold Lib.tailV
  by_cases h : N = o
  · have hl : l = [] := List.eq_nil_of_length_eq_zero (by omega)
    subst hl
    rw [if_pos h, run_copy_rd dT ty elem hu hz g 0 _ _ A m c [] cur T hr hg (by simp) (by simp)]
    simp [spl]
  · rw [if_neg h]
    exact run_copy_rd dT ty elem hu hz g o _ _ A m c l cur T hr hg (by omega) (by omega)
theorem wpList_copy_tl {P : Program} {w : World} {ops : Array Oper} {rest : List Oper} {o : Oper} {a : Act} {Q : Exit → Act → World → Prop} (hgd : o.guard = none) (d s : Operand) (t : TypeId) (ho : o.op = .call { callee := .builtin .copy, args := #[d, s], argTypes := #[t, t] })
    (elem : TypeId) (hu : P.underlying t = some (.slice elem)) (hz : (P.info? elem).map (·.size) = some 1) (g off N : Nat) (A : Option Addr) (m c : Nat) (l : List Int) (cur : List Value) (T : TypeId)
    (hd : a.eval d = Lib.tailV g N off) (hs : a.eval s = .slice A m c) (hr : Rd w .u8 (.slice A m c) l) (hg : Blk w g T cur.toArray) (hl : off + l.length ≤ N) (hfit : N ≤ cur.length)
    (h : ∀ w', Blk w' g T (spl cur off (l.map (Value.int .u8))).toArray → w.grownBy w' (some g) → wpList P ops Q rest (a.put o.dst (goInt l.length)) w') : wpList P ops Q (o :: rest) a w :=
  wpList_plain hgd fun _ hK => wp_copy_w d s t t ho _ _ hd hs (run_copy_tl t o.type elem hu hz g off N A m c l cur T hr hg hl hfit) (hK _ _ (h _ hg.setRow (grown_setRow w g _)))
theorem wpList_copy_no {P : Program} {w : World} {ops : Array Oper} {rest : List Oper} {o : Oper} {a : Act} {Q : Exit → Act → World → Prop} (hgd : o.guard = none) (d s : Operand) (t : TypeId) (ho : o.op = .call { callee := .builtin .copy, args := #[d, s], argTypes := #[t, t] })
    (elem : TypeId) (hu : P.underlying t = some (.slice elem)) (hz : (P.info? elem).map (·.size) = some 1) (g N off : Nat) (hd : a.eval d = Lib.tailV g N off) (hs : a.eval s = .slice none 0 0)
    (h : wpList P ops Q rest (a.put o.dst (goInt 0)) w) : wpList P ops Q (o :: rest) a w :=
  wpList_plain hgd fun _ hK => wp_copy_w d s t t ho _ _ hd hs (run_copy_nil _ w t t o.type elem _ _ _ hu (by rw [hz]; rfl)) (hK _ _ h)
theorem infoU8 : (Tryd.prog.info? 5).map (·.size) = some 1 := by kernel_rfl
theorem spl_take (cur : List Value) (o : Nat) (cs xs : List Value) (h : cur.take o = xs) (hx : xs.length = o) (hf : o + cs.length ≤ cur.length) : (spl cur o cs).take (o + cs.length) = xs ++ cs := by
  unfold spl
  rw [h]
  have e : o + cs.length = (xs ++ cs).length := by rw [List.length_append, hx]
  rw [e]
  exact List.take_left
set_option maxHeartbeats 4000000 in
set_option maxRecDepth 100000 in
theorem join3 (b : Nat) (A1 A2 A3 : Option Addr) (n1 n2 n3 c1 c2 c3 : Nat) (l1 l2 l3 : List Int) (w : World) (h1 : w.cell? ⟨b, 0, none⟩ = some (.slice A1 n1 c1)) (h2 : w.cell? ⟨b, 1, none⟩ = some (.slice A2 n2 c2)) (h3 : w.cell? ⟨b, 2, none⟩ = some (.slice A3 n3 c3))
    (r1 : Rd w .u8 (.slice A1 n1 c1) l1) (r2 : Rd w .u8 (.slice A2 n2 c2) l2) (r3 : Rd w .u8 (.slice A3 n3 c3) l3) (hl : l1.length + l2.length + l3.length ≤ 1000000) :
    Calls Tryd.prog 29 #[.slice (some ⟨b, 0, none⟩) 3 3, .slice none 0 0] w fun e w' => ∃ v, e = .returned v ∧ OwnM w' w.heap.size 5 1 v (l1 ++ l2 ++ l3).length ((l1 ++ l2 ++ l3).map (Value.int .u8)) ∧ Below w.heap.size w w' := by
  have e1 := r1.rdv.1
  have e2 := r2.rdv.1
  have e3 := r3.rdv.1
  obtain ⟨N, hN⟩ : ∃ N, N = n1 + n2 + n3 := ⟨_, rfl⟩
  have hs3 : (n1 : Int) + (n2 : Int) + (n3 : Int) = (N : Int) := by omega
  have hN6 : N ≤ 1000000 := by omega
  obtain ⟨cs, hrunM, hle, hcm⟩ := Lib.run_makeNoZero (P := Tryd.prog) (w := w) #[3] 23 5 Tryd.underlying23 N (by omega)
  have hcm' := hcm (by unfold maxLen; omega)
  have hcall : (callFunc 48 #[.int .i64 (N : Int)]).run Tryd.prog w = .ok (.value (.slice (some ⟨w.heap.size, 0, none⟩) N cs.size)) ((w.alloc (.cells cs 5)).drewN 2) := by
    rw [run_callFunc_extern Tryd.func48 (by kernel_rfl) (by kernel_rfl) (by kernel_rfl) (e := Extern.BytealgMakeNoZero.makeNoZero #[3] #[23]) (by kernel_rfl), hrunM]
    rfl
  have z5 : ∀ W, (Go.sizeOf 5).run Tryd.prog W = .ok 1 W := Tryd.sizeOf5
  have hsl1 : ∀ W, (Instr.slice 23 (.slice (some ⟨w.heap.size, 0, none⟩) N N) (some (.int .i64 (l1.length : Int))) none none).run Tryd.prog W = .ok (Lib.tailV w.heap.size N l1.length) W := fun W => Lib.run_slice_tailV W 23 5 Tryd.underlying23 z5 _ N l1.length (by omega)
  have hsl2 : ∀ W, (Instr.slice 23 (.slice (some ⟨w.heap.size, 0, none⟩) N N) (some (.int .i64 ((l1.length : Int) + (l2.length : Int)))) none none).run Tryd.prog W = .ok (Lib.tailV w.heap.size N (l1.length + l2.length)) W := fun W => by
    have := Lib.run_slice_tailV (P := Tryd.prog) W 23 5 Tryd.underlying23 z5 w.heap.size N (l1.length + l2.length) (by omega)
    rwa [show ((l1.length + l2.length : Nat) : Int) = (l1.length : Int) + (l2.length : Int) by omega] at this
  have i0 : (0 : Int) ≤ (N : Int) := by omega
  have i1 : (N : Int) ≤ (cs.size : Int) := by omega
  have hlt := World.block_lt_of_cell? _ _ h1
  have hb0 : Below w.heap.size w ((w.alloc (.cells cs 5)).drewN 2) := below_drewN ((Below.refl _ _).alloc (Nat.le_refl _) _) 2
  have g1 := keepB_cell h1 _ hb0
  have hG0 : Blk ((w.alloc (.cells cs 5)).drewN 2) w.heap.size 5 cs.toList.toArray := by rw [Array.toArray_toList]; exact (Blk.new w 5 cs).drewN 2
  have hca : cs.toList.length = cs.size := by simp
  have q1 : l1.length ≤ N := by omega
  have f1 : 0 + l1.length ≤ cs.toList.length := by omega
  have HE := Lib.hid (And.intro e1 (And.intro e2 (And.intro e3 hN)))
  have R1 := r1.below hb0
  clear hrunM hcm e1 e2 e3 hN
  go_enter Tryd.func29, Tryd.ntmps29
  go_wp2_with fail
  refine wp_loop_rounds 4 ?_
  rw [rounds_succ]; go_wp2_with fail
  rw [rounds_succ]; go_wp2_with fail
  rw [rounds_succ]; go_wp2_with fail
  rw [rounds_succ]; go_wp2_with (with_reducible refine wpList_copy_rd rfl (.tmp 64) (.tmp 67) 23 rfl 5 Tryd.underlying23 infoU8 w.heap.size 0 N N A1 n1 c1 l1 cs.toList 5 rfl rfl R1 hG0 q1 f1 ?_; intro w1 hG1 hgr1)
  have hB1 := hb0.grown hgr1 hb0.size (fun b hb => by cases hb; exact Nat.le_refl _)
  have g2 := keepB_cell h2 _ hB1
  have R2 := r2.below hB1
  have k1 : (spl cs.toList 0 (l1.map (Value.int .u8))).take l1.length = l1.map (Value.int .u8) := by
    have := spl_take cs.toList 0 (l1.map (Value.int .u8)) [] rfl rfl (by simpa using f1)
    simpa using this
  have s1 : (spl cs.toList 0 (l1.map (Value.int .u8))).length = cs.size := by rw [spl_len (by simpa using f1)]; exact hca
  obtain ⟨cur1, hcur1⟩ : ∃ c, c = spl cs.toList 0 (l1.map (Value.int .u8)) := ⟨_, rfl⟩
  rw [← hcur1] at hG1 k1 s1
  have q2 : l1.length + l2.length ≤ N := by have := HE.out; omega
  have q3 : l1.length + l2.length + l3.length ≤ N := by have := HE.out; omega
  have hle1 : N ≤ cur1.length := by omega
  clear hcur1 hcall g1 R1 hG0 f1 q1 hb0
  refine wp_loop_rounds 3 ?_
  rw [rounds_succ]; go_wp2_with (first | (with_reducible refine wpList_copy_no rfl (.tmp 79) (.tmp 80) 23 rfl 5 Tryd.underlying23 infoU8 w.heap.size N l1.length rfl rfl ?_) | (with_reducible refine wpList_copy_tl rfl (.tmp 86) (.tmp 87) 23 rfl 5 Tryd.underlying23 infoU8 w.heap.size l1.length N A2 n2 c2 l2 cur1 5 rfl rfl R2 hG1 q2 hle1 ?_; intro w2 hG2 hgr2))
  have hB2 := hB1.grown hgr2 hB1.size (fun b hb => by cases hb; exact Nat.le_refl _)
  have g3 := keepB_cell h3 _ hB2
  have R3 := r3.below hB2
  have k2 : (spl cur1 l1.length (l2.map (Value.int .u8))).take (l1.length + l2.length) = l1.map (Value.int .u8) ++ l2.map (Value.int .u8) := by
    have := spl_take cur1 l1.length (l2.map (Value.int .u8)) (l1.map (Value.int .u8)) k1 (by simp) (by simp; omega)
    simpa using this
  have s2 : (spl cur1 l1.length (l2.map (Value.int .u8))).length = cs.size := by rw [spl_len (by simp; omega)]; exact s1
  obtain ⟨cur2, hcur2⟩ : ∃ c, c = spl cur1 l1.length (l2.map (Value.int .u8)) := ⟨_, rfl⟩
  rw [← hcur2] at hG2 k2 s2
  have hle2 : N ≤ cur2.length := by omega
  clear hcur2 g2 R2 hG1 hle1 k1 s1 hB1 hgr1
  rw [rounds_succ]; go_wp2_with (first | (with_reducible refine wpList_copy_no rfl (.tmp 79) (.tmp 80) 23 rfl 5 Tryd.underlying23 infoU8 w.heap.size N (l1.length + l2.length) rfl rfl ?_) | (with_reducible refine wpList_copy_tl rfl (.tmp 86) (.tmp 87) 23 rfl 5 Tryd.underlying23 infoU8 w.heap.size (l1.length + l2.length) N A3 n3 c3 l3 cur2 5 rfl rfl R3 hG2 q3 hle2 ?_; intro w3 hG3 hgr3))
  have hB3 := hB2.grown hgr3 hB2.size (fun b hb => by cases hb; exact Nat.le_refl _)
  have k3 : (spl cur2 (l1.length + l2.length) (l3.map (Value.int .u8))).take (l1.length + l2.length + l3.length) = l1.map (Value.int .u8) ++ l2.map (Value.int .u8) ++ l3.map (Value.int .u8) := by
    have := spl_take cur2 (l1.length + l2.length) (l3.map (Value.int .u8)) _ k2 (by simp) (by simp; omega)
    simpa using this
  have s3 : (spl cur2 (l1.length + l2.length) (l3.map (Value.int .u8))).length = cs.size := by rw [spl_len (by simp; omega)]; exact s2
  clear g3 R3 hG2 hle2 k2 s2 hB2 hgr2
  rw [rounds_succ]; go_wp2_with fail
  go_ret
  have hNN : (l1 ++ l2 ++ l3).length = N := by have := HE.out; simp only [List.length_append]; omega
  refine ⟨.slice (some ⟨w.heap.size, 0, none⟩) N N, rfl, ⟨by simp, .inr ⟨w.heap.size, 0, N, _, by rw [hNN], Nat.le_refl _, hG3, by omega, by unfold maxLen; omega, ?_, ?_⟩⟩, hB3⟩
  · simp only [List.size_toArray]; omega
  · rw [List.drop_zero, Nat.mul_one, hNN]
    have : N = l1.length + l2.length + l3.length := by rw [← hNN]; simp only [List.length_append]
    rw [this]
    simpa using k3

end Go.Proofs.YtjijmbpgfabgcaaDoor
