/-
  Put of a quilt: what lies in memory between; the plain side. No condition.
-/
import Derived.Test.YtpkondemkpogoaaQtake
namespace Go.Proofs.Ytpkondemkpogoaa
open Go.RowKit
set_option linter.unusedVariables false
set_option linter.unusedSimpArgs false


/-! The plain side. -/
def laE (en : Bool) (tt la : Int) : Int := if en = true then tt else la
def trm (rd : Int) (x : Pat) : Pat := if x.1 < rd then (x.1 + (min (rd - x.1).toNat x.2.length : Nat), x.2.drop (min (rd - x.1).toNat x.2.length)) else x
theorem trm_pe (rd : Int) (x : Pat) : pe (trm rd x) = pe x := by
  unfold trm
  split
  · unfold pe; simp only [List.length_drop]; omega
  · rfl
theorem trm_lo (rd : Int) (x : Pat) : x.1 ≤ (trm rd x).1 := by
  unfold trm
  split
  · simp only; omega
  · exact Int.le_refl _
theorem trm_or (rd : Int) (x : Pat) : rd ≤ (trm rd x).1 ∨ (trm rd x).2 = [] := by
  unfold trm
  split
  · rcases Nat.lt_or_ge (rd - x.1).toNat x.2.length with h | h
    · left; simp only; omega
    · right; simp only; exact List.drop_eq_nil_of_le (by omega)
  · left; omega
theorem put_trm {rd : Int} {x : Pat} {L : List Pat} (h : Ch rd L) : Ch rd (putL (trm rd x) L) := by
  rcases trm_or rd x with h1 | h1
  · exact put_ch h h1
  · rw [(put_empty h1 L).1]; exact h
theorem cut_in {x : Pat} {L : List Pat} {z : Pat} (h : z ∈ cutP x L) : pe z ≤ pe x ∧ ∀ b ∈ z.2, b ∈ x.2 := by
  induction L generalizing x with
  | nil =>
    unfold cutP lst at h
    split at h
    · simp at h
    · simp only [List.mem_singleton] at h
      subst h
      exact ⟨Int.le_refl _, fun b h => h⟩
  | cons y T ih =>
    unfold cutP at h
    split at h
    · unfold lst at h
      split at h
      · simp at h
      · simp only [List.mem_singleton] at h
        subst h
        exact ⟨Int.le_refl _, fun b h => h⟩
    · rcases List.mem_append.1 h with h | h
      · unfold hd1 at h
        split at h
        · simp only [List.mem_singleton] at h
          subst h
          refine ⟨?_, fun b h => List.mem_of_mem_take h⟩
          unfold pe
          simp only [List.length_take]
          omega
        · simp at h
      · obtain ⟨h1, h2⟩ := ih h
        rw [adv_pe] at h1
        exact ⟨h1, fun b hb => List.mem_of_mem_drop (h2 b hb)⟩
theorem put_all {P : Pat → Prop} {x : Pat} {L : List Pat} (hL : ∀ z ∈ L, P z) (hx : ∀ z ∈ cutP x L, P z) : ∀ z ∈ putL x L, P z := fun z hz => by
  rcases List.mem_append.1 ((put_perm x L).mem_iff.1 hz) with h | h
  · exact hL z h
  · exact hx z h
theorem ch_len {b : Int} {L : List Pat} (h : Ch b L) : L.length ≤ hld L := by
  induction L generalizing b with
  | nil => simp
  | cons x T ih =>
    obtain ⟨_, h2, h3⟩ := h
    have := ih h3
    have := len_pos h2
    simp only [hld, List.map_cons, List.sum_cons, List.length_cons] at *
    omega
/-- What is plain in the loop of Put. -/
structure Lp (x0 : Pat) (L : List Pat) (i : Nat) (x : Pat) (O : List Pat) : Prop where
  eq : O ++ cutP x (L.drop i) = cutP x0 L
  le : O.length ≤ i
  lo : 0 ≤ x.1
  hi : pe x ≤ QM
theorem Lp.start {x0 : Pat} {L : List Pat} (h0 : 0 ≤ x0.1) (h1 : pe x0 ≤ QM) : Lp x0 L 0 x0 [] := ⟨by simp, Nat.le_refl _, h0, h1⟩
section
variable {x0 x : Pat} {L O : List Pat} {i : Nat}
theorem Lp.end_ (h : Lp x0 L i x O) (hi : L.length ≤ i) : O ++ lst x = cutP x0 L := by
  have := h.eq
  rwa [List.drop_eq_nil_of_le hi, show cutP x [] = lst x from rfl] at this
theorem Lp.brk (h : Lp x0 L i x O) (hi : i < L.length) (hb : pe x ≤ L[i].1) : O ++ lst x = cutP x0 L := by
  have := h.eq
  rwa [drop_at L i hi, show cutP x (L[i] :: L.drop (i + 1)) = if pe x ≤ L[i].1 then lst x else hd1 x L[i] ++ cutP (adv x L[i]) (L.drop (i + 1)) from rfl, if_pos hb] at this
theorem Lp.go (h : Lp x0 L i x O) (hi : i < L.length) (hb : ¬ pe x ≤ L[i].1) : Lp x0 L (i + 1) (adv x L[i]) (O ++ hd1 x L[i]) := by
  have := h.eq
  rw [drop_at L i hi, show cutP x (L[i] :: L.drop (i + 1)) = if pe x ≤ L[i].1 then lst x else hd1 x L[i] ++ cutP (adv x L[i]) (L.drop (i + 1)) from rfl, if_neg hb] at this
  refine ⟨by rw [List.append_assoc]; exact this, ?_, ?_, by rw [adv_pe]; exact h.hi⟩
  · have := h.le
    unfold hd1
    split <;> simp <;> omega
  · have := h.lo
    unfold adv
    simp only
    omega
end

/-! Memory. -/
theorem step_append_mid {P : Program} {w : World} {ops : Array Oper} {o : Oper} {a : Act} {K : Act → World → Prop} {Q : Exit → Act → World → Prop} {E : Prop} (hgd : o.guard = none) (s x : Operand) (t : TypeId)
    (ho : o.op = .call { callee := .builtin .append, args := #[s, x], argTypes := #[t, t] })
    (base : Nat) (e : TypeId) (i : TypeInfo) (z : Value) (size bytes : Nat) (ht : P.underlying t = some (.slice e)) (hi : P.info? e = some i) (hz : i.zero = some z)
    (hsize : i.size = size) (hby : i.bytes = bytes) (hzs : z.cells.size = size) (hsz : 0 < size)
    (v : Value) (n : Nat) (xs : List Value) (hs : a.eval s = v) (hown : OwnM w base e size v n xs)
    (A : Option Addr) (m c : Nat) (news : List Value) (hx : a.eval x = .slice A m c) (hr : RdV w size A m news) (h1 : ∀ u ∈ news, u.oneCell' = true)
    (h63 : n + m ≤ maxLen) (hbytes : (n + m) * bytes ≤ 140737488355328) (hbase : base ≤ w.heap.size) (hA : A = none → m = 0)
    (h : ∀ v' w', OwnM w' base e size v' (n + m) (xs ++ news) → w.grownBy w' v.ownBlock → (v'.ownBlock = v.ownBlock ∨ v'.ownBlock = some w.heap.size) → K (a.put o.dst v') w') : if Region.wanted o (yielded ops a.tmps) = true then Oper.wp P o a w K Q else E := by
  have hw : Region.wanted o (yielded ops a.tmps) = true := by simp [Region.wanted, hgd]
  rw [if_pos hw]
  obtain ⟨v', w', hrun, h2, h3, h4⟩ := run_append_mid (P := P) w base t o.type e i z size bytes ht hi hz hsize hby hzs hsz v n xs hown A m c news hr h1 h63 hbytes hbase hA
  unfold Oper.wp execOp
  simp only [ho, resolve, invoke, builtin, Sem.run_bind, Sem.run_pure, Result.andThen_ok, List.map_toArray, List.map_cons, List.map_nil, hs, hx, hrun]
  exact h v' w' h2 h3 h4
theorem rdv_pair (w : World) (a b : Value) : RdV (w.alloc (.cells #[a, b] 66)) 2 (some ⟨w.heap.size, 0, none⟩) 1 [a, b] :=
  (mid_of_own (World.ownsRow_lit (size := 2) (e := 66) w #[a, b] 1 (Nat.le_refl _) (by decide) rfl)).rdv.1
theorem encP_one (x : PV) : ∀ u ∈ encP x, u.oneCell' = true := fun u hu => by simp [encP] at hu; rcases hu with rfl | rfl <;> rfl
/-- Bytes lie in no row of pieces. -/
theorem rdt_mid {w : World} {v u : Value} {l : List Int} {base n : Nat} {xs : List Value} (h : RdT w v l) (k : OwnM w base 66 2 u n xs) : ∀ b, v.ownBlock = some b → some b ≠ u.ownBlock := fun b hb e => by
  rcases h.shape with ⟨c, e1, _⟩ | ⟨b2, off, cap, cs, e1, hB, _⟩
  · rw [e1] at hb; simp [Value.ownBlock] at hb
  · rw [e1] at hb
    simp [Value.ownBlock] at hb
    subst hb
    exact k.blk_ne hB (by decide) e.symm
/-- The rest of a row of bytes: how it lies. -/
theorem sli_cases {w : World} {A : Option Addr} {n c m : Nat} {l : List Int} (h : RdT w (.slice A n c) l) (hm : m ≤ l.length) :
    (A = none ∧ n = 0 ∧ l = [] ∧ m = 0) ∨ (∃ b off, A = some ⟨b, off, none⟩ ∧ n = l.length ∧ n ≤ c ∧ c ≤ maxLen ∧ m < c ∧ RdT w (.slice (some ⟨b, off + m, none⟩) (n - m) (c - m)) (l.drop m)) ∨
    (∃ b off, A = some ⟨b, off, none⟩ ∧ m = n ∧ c = n ∧ n = l.length ∧ n ≤ maxLen ∧ l.drop m = [] ∧ RdT w (.slice (some ⟨b, off, none⟩) 0 0) []) := by
  rcases h.shape with ⟨cz, e, h0⟩ | ⟨b, off, cp, cs, e, _, _, h1, h2⟩
  · simp only [Value.slice.injEq] at e
    obtain ⟨rfl, rfl, rfl⟩ := e
    subst h0
    exact .inl ⟨rfl, rfl, rfl, by simpa using hm⟩
  · simp only [Value.slice.injEq] at e
    obtain ⟨rfl, rfl, rfl⟩ := e
    rcases Nat.lt_or_ge m c with hc | hc
    · exact .inr (.inl ⟨b, off, rfl, rfl, h1, h2, hc, h.suf hm⟩)
    · exact .inr (.inr ⟨b, off, rfl, by omega, by omega, rfl, by omega, List.drop_eq_nil_of_le (by omega), h.emp⟩)
/-- Between: the quilt, the piece at hand, what was cut. -/
structure PT (S : Nat → Prop) (B : Nat) (w0 w : World) (g : Nat) (V : Value) (d : List PV) (rd hi la : Int) (kn : Bool) (xb : Nat) (x : PV) (ov : Value) (O : List PV) : Prop where
  lo : B ≤ g
  gl : g < w0.heap.size
  me : Blk w g 63 (qcells V rd hi la kn)
  own : OwnM w B 66 2 V d.length (pvc d)
  rb : ∀ b, V.ownBlock = some b → b < w0.heap.size
  ps : PsOk S w d
  sl : ∀ b, S b → b < w0.heap.size
  xg : w0.heap.size ≤ xb
  xc : Blk w xb 66 #[.int .u64 x.1.1, pvv x]
  xr : RdT w (pvv x) x.1.2
  xs : ∀ b, (pvv x).ownBlock = some b → w0.heap.size ≤ b
  out : OwnM w w0.heap.size 66 2 ov O.length (pvc O)
  os : PsOk (fun b => w0.heap.size ≤ b) w O
  ox : ov.ownBlock ≠ some xb
  on : Onl w0 w g none
section
variable {S : Nat → Prop} {B : Nat} {w0 w w' : World} {g : Nat} {V : Value} {d : List PV} {rd hi la : Int} {kn : Bool} {xb : Nat} {x : PV} {ov : Value} {O : List PV}
theorem PT.below (h : PT S B w0 w g V d rd hi la kn xb x ov O) (hb : Below w.heap.size w w') : PT S B w0 w' g V d rd hi la kn xb x ov O :=
  ⟨h.lo, h.gl, h.me.same hb, h.own.below hb, h.rb, h.ps.below hb, h.sl, h.xg, h.xc.same hb, h.xr.below hb, h.xs, h.out.below hb, h.os.below hb, h.ox, h.on.below hb⟩
theorem PT.drew (h : PT S B w0 w g V d rd hi la kn xb x ov O) : PT S B w0 w.drew g V d rd hi la kn xb x ov O := h.below (below_drewN (Below.refl _ w) 1)
theorem PT.drewN (h : PT S B w0 w g V d rd hi la kn xb x ov O) (n : Nat) : PT S B w0 (w.drewN n) g V d rd hi la kn xb x ov O := h.below (below_drewN (Below.refl _ w) n)
theorem PT.alloc (h : PT S B w0 w g V d rd hi la kn xb x ov O) (o : Obj) : PT S B w0 (w.alloc o) g V d rd hi la kn xb x ov O := h.below ((Below.refl _ _).alloc (Nat.le_refl _) o)
theorem PT.gx (h : PT S B w0 w g V d rd hi la kn xb x ov O) : g ≠ xb := by have := h.gl; have := h.xg; omega
/-- One of the quilt's numbers turns. -/
theorem PT.num (h : PT S B w0 w g V d rd hi la kn xb x ov O) (i : Nat) (u : Value) (hi' la' : Int) (kn' : Bool) (e : (qcells V rd hi la kn).setIfInBounds i u = qcells V rd hi' la' kn') : PT S B w0 (w.setCell ⟨g, i, none⟩ u) g V d rd hi' la' kn' xb x ov O :=
  ⟨h.lo, h.gl, e ▸ h.me.set_ i u, h.own.far (p := ⟨g, i, none⟩) (h.own.blk_ne h.me (by decide)) _, h.rb, h.ps.set h.me (by decide) i u, h.sl, h.xg, h.xc.far (p := ⟨g, i, none⟩) h.gx.symm _, rdt_set h.xr h.me (by decide) i u, h.xs,
    h.out.far (p := ⟨g, i, none⟩) (h.out.blk_ne h.me (by decide)) _, h.os.set h.me (by decide) i u, h.ox, h.on.grown (grown_set (grown_refl w _) i u) (fun c e => .inl (by simpa using e.symm))⟩
/-- The piece at hand turns. -/
theorem PT.setx (h : PT S B w0 w g V d rd hi la kn xb x ov O) (y : PV) (hR : RdT w (pvv y) y.1.2) (hS : ∀ b, (pvv y).ownBlock = some b → w0.heap.size ≤ b) :
    PT S B w0 ((w.setCell ⟨xb, 0, none⟩ (.int .u64 y.1.1)).setCell ⟨xb, 1, none⟩ (pvv y)) g V d rd hi la kn xb y ov O ∧
    PT S B w0 ((w.setCell ⟨xb, 1, none⟩ (pvv y)).setCell ⟨xb, 0, none⟩ (.int .u64 y.1.1)) g V d rd hi la kn xb y ov O := by
  have hv : V.ownBlock ≠ some xb := fun e => by have := h.rb xb e; have := h.xg; omega
  have fr : ∀ (W : World) (i : Nat) (u : Value) (cu : Array Value), Blk W xb 66 cu → Blk W g 63 (qcells V rd hi la kn) → OwnM W B 66 2 V d.length (pvc d) → PsOk S W d → RdT W (pvv y) y.1.2 → OwnM W w0.heap.size 66 2 ov O.length (pvc O) → PsOk (fun b => w0.heap.size ≤ b) W O → Onl w0 W g none →
      Blk (W.setCell ⟨xb, i, none⟩ u) xb 66 (cu.setIfInBounds i u) ∧ Blk (W.setCell ⟨xb, i, none⟩ u) g 63 (qcells V rd hi la kn) ∧ OwnM (W.setCell ⟨xb, i, none⟩ u) B 66 2 V d.length (pvc d) ∧ PsOk S (W.setCell ⟨xb, i, none⟩ u) d ∧ RdT (W.setCell ⟨xb, i, none⟩ u) (pvv y) y.1.2 ∧ OwnM (W.setCell ⟨xb, i, none⟩ u) w0.heap.size 66 2 ov O.length (pvc O) ∧ PsOk (fun b => w0.heap.size ≤ b) (W.setCell ⟨xb, i, none⟩ u) O ∧ Onl w0 (W.setCell ⟨xb, i, none⟩ u) g none :=
    fun W i u cu k1 k2 k3 k4 k5 k6 k7 k8 => ⟨k1.set_ i u, k2.far (p := ⟨xb, i, none⟩) h.gx u, k3.far (p := ⟨xb, i, none⟩) hv u, k4.set k1 (by decide) i u, rdt_set k5 k1 (by decide) i u, k6.far (p := ⟨xb, i, none⟩) h.ox u, k7.set k1 (by decide) i u,
      k8.grown (grown_set (grown_refl W _) i u) (fun c e => .inr (.inr (by have := h.xg; simp at e; omega)))⟩
  constructor
  · obtain ⟨a1, a2, a3, a4, a5, a6, a7, a8⟩ := fr w 0 (.int .u64 y.1.1) _ h.xc h.me h.own h.ps hR h.out h.os h.on
    obtain ⟨b1, b2, b3, b4, b5, b6, b7, b8⟩ := fr _ 1 (pvv y) _ a1 a2 a3 a4 a5 a6 a7 a8
    exact ⟨h.lo, h.gl, b2, b3, h.rb, b4, h.sl, h.xg, by simpa using b1, b5, hS, b6, b7, h.ox, b8⟩
  · obtain ⟨a1, a2, a3, a4, a5, a6, a7, a8⟩ := fr w 1 (pvv y) _ h.xc h.me h.own h.ps hR h.out h.os h.on
    obtain ⟨b1, b2, b3, b4, b5, b6, b7, b8⟩ := fr _ 0 (.int .u64 y.1.1) _ a1 a2 a3 a4 a5 a6 a7 a8
    exact ⟨h.lo, h.gl, b2, b3, h.rb, b4, h.sl, h.xg, by simpa using b1, b5, hS, b6, b7, h.ox, b8⟩
/-- A piece more is cut. -/
theorem PT.app (h : PT S B w0 w g V d rd hi la kn xb x ov O) {y : PV} {ov' : Value} (hR : RdT w (pvv y) y.1.2) (hS : ∀ b, (pvv y).ownBlock = some b → w0.heap.size ≤ b)
    (ho : OwnM w' w0.heap.size 66 2 ov' (O.length + 1) (pvc O ++ encP y)) (hg : w.grownBy w' ov.ownBlock) (hw : ov'.ownBlock = ov.ownBlock ∨ ov'.ownBlock = some w.heap.size) : PT S B w0 w' g V d rd hi la kn xb x ov' (O ++ [y]) := by
  have hv : ∀ b, ov.ownBlock = some b → w0.heap.size ≤ b := fun b hb => (h.out.lt b hb).1
  have hgl := h.gl
  have keep : ∀ {v : Value} {l : List Int}, RdT w v l → RdT w' v l := fun k => k.kept hg (rdt_mid k h.out)
  refine ⟨h.lo, h.gl, h.me.grown hg (fun e => by have := hv g e.symm; omega), h.own.kept hg ?_, h.rb, fun z hz => ⟨keep (h.ps z hz).1, (h.ps z hz).2⟩, h.sl, h.xg, h.xc.grown hg (fun e => h.ox e.symm), keep h.xr, h.xs, ?_, fun z hz => ?_, ?_, h.on.grown hg (fun b e => .inr (.inr (hv b e)))⟩
  · rcases hV : V.ownBlock with _ | b
    · exact .inl rfl
    · exact .inr (fun e => by have := hv b e.symm; have := h.rb b hV; omega)
  · rw [pvc_app, show pvc [y] = encP y from by simp [pvc]]
    simpa using ho
  · rcases List.mem_append.1 hz with hz | hz
    · exact ⟨keep (h.os z hz).1, (h.os z hz).2⟩
    · simp only [List.mem_singleton] at hz
      subst hz
      exact ⟨keep hR, hS⟩
  · rcases hw with e | e
    · rw [e]; exact h.ox
    · rw [e]; have := h.xc.lt; simp; omega
end
/-- A piece that lies in a block of two cells stays where the row of pieces grows. -/
theorem blk_of_app {w w' : World} {yb : Nat} {cs : Array Value} {r : Option Nat} (h : Blk w yb 66 cs) (hg : w.grownBy w' r) (hr : r ≠ some yb) : Blk w' yb 66 cs := h.grown hg hr.symm

section
variable {S : Nat → Prop} {B : Nat} {w0 w w' : World} {g : Nat} {V : Value} {d : List PV} {rd hi la : Int} {kn : Bool} {xb : Nat} {x : PV} {ov : Value} {O : List PV}
/-- All is laid behind one another. -/
theorem PT.fin (h : PT S B w0 w g V d rd hi la kn xb x ov O) {V' : Value} (ho : OwnM w' B 66 2 V' (d.length + O.length) (pvc d ++ pvc O)) (hg : w.grownBy w' V.ownBlock) (hw : V'.ownBlock = V.ownBlock ∨ V'.ownBlock = some w.heap.size) :
    Blk (w'.setCell ⟨g, 0, none⟩ V') g 63 (qcells V' rd hi la kn) ∧ OwnM (w'.setCell ⟨g, 0, none⟩ V') B 66 2 V' (d ++ O).length (pvc (d ++ O)) ∧ PsOk (fun b => S b ∨ w0.heap.size ≤ b) (w'.setCell ⟨g, 0, none⟩ V') (d ++ O) ∧ Onl w0 (w'.setCell ⟨g, 0, none⟩ V') g V.ownBlock := by
  have hvg := h.own.blk_ne h.me (by decide)
  have hme := h.me.grown hg hvg.symm
  have keep : ∀ {v : Value} {l : List Int}, RdT w v l → RdT w' v l := fun k => k.kept hg (rdt_mid k h.own)
  have hp : PsOk (fun b => S b ∨ w0.heap.size ≤ b) w' (d ++ O) := fun z hz => by
    rcases List.mem_append.1 hz with hz | hz
    · exact ⟨keep (h.ps z hz).1, fun b hb => .inl ((h.ps z hz).2 b hb)⟩
    · exact ⟨keep (h.os z hz).1, fun b hb => .inr ((h.os z hz).2 b hb)⟩
  have hon : Onl w0 w' g V.ownBlock := ⟨hg.os.trans h.on.os, hg.tape.trans h.on.tape, hg.output.trans h.on.output, Nat.le_trans h.on.size hg.size, fun i h1 h2 h3 => (hg.block i (Nat.lt_of_lt_of_le h1 h.on.size) h3).trans (h.on.block i h1 h2 (by simp))⟩
  refine ⟨hme.set_ 0 V', ?_, hp.set hme (by decide) 0 V', hon.grown (grown_set (grown_refl w' _) 0 V') (fun c e => .inl (by simpa using e.symm))⟩
  have := ho.far (p := ⟨g, 0, none⟩) (ho.blk_ne hme (by decide)) V'
  rw [List.length_append, pvc_app]
  exact this
end
/-- Behind the sort. -/
theorem fin_sort {S : Nat → Prop} {B : Nat} {w0 w w' : World} {g b off cap : Nat} {rb : Option Nat} {dd d' : List PV} {rd hi la : Int} {kn : Bool} (hB : B ≤ g)
    (hme : Blk w g 63 (qcells (.slice (some ⟨b, off, none⟩) dd.length cap) rd hi la kn)) (ho : OwnM w B 66 2 (.slice (some ⟨b, off, none⟩) dd.length cap) dd.length (pvc dd)) (hp : PsOk S w dd) (hon : Onl w0 w g rb) (hb : b < w0.heap.size → some b = rb)
    (hperm : d'.Perm dd) (ho' : OwnM w' B 66 2 (.slice (some ⟨b, off, none⟩) dd.length cap) dd.length (pvc d')) (hg : w.grownBy w' (some b)) :
    QS S B w' g (some b) d' rd hi la kn ∧ Onl w0 w' g rb := by
  have hbg : some g ≠ some b := fun e => ho.blk_ne hme (by decide) (by simpa [Value.ownBlock] using e.symm)
  have hl := hperm.length_eq
  refine ⟨⟨hB, ⟨_, rfl, hme.grown hg hbg, by rw [hl]; exact ho'⟩, fun z hz => ?_⟩, hon.grown hg (fun c e => ?_)⟩
  · obtain ⟨h1, h2⟩ := hp.perm hperm z hz
    exact ⟨h1.kept hg (fun c e => by simpa [Value.ownBlock] using rdt_mid h1 ho c e), h2⟩
  · simp only [Option.some.injEq] at e
    subst e
    by_cases hc : b < w0.heap.size
    · exact .inr (.inl (hb hc))
    · exact .inr (.inr (by omega))
set_option maxHeartbeats 4000000 in
set_option maxRecDepth 100000 in
theorem insert_nil (c : Value) (w : World) : Calls Try.prog 36 #[.slice none 0 0, .int .i64 0, .int .i64 0, c] w fun e w' => e = .returned (.tuple #[]) ∧ w = w' := by
  go_enter Try.func36, Try.ntmps36
  go_wp2_with fail
  go_loopw [8] (fun s8 wr => s8 = .int .i64 1 ∧ wr = w) (fun s8 _ => 0)
  case atStart => exact ⟨rfl, rfl⟩
  case round =>
    obtain ⟨rfl, rfl⟩ := hrel
    go_wp2_with fail
    go_end0
    exact ⟨rfl, rfl⟩
set_option maxHeartbeats 4000000 in
set_option maxRecDepth 100000 in
theorem len64_nil (w : World) : Calls Try.prog 45 #[.int .u64 0] w fun e w' => ∃ k, e = .returned (.int .i64 k) ∧ w = w' := by
  go_enter Try.func45, Try.ntmps45
  go_wp2_with fail
  go_ret
  exact ⟨_, rfl, rfl⟩
set_option maxHeartbeats 4000000 in
set_option maxRecDepth 100000 in
theorem len_nil (w : World) : Calls Try.prog 35 #[.int .u64 0] w fun e w' => ∃ k, e = .returned (.int .i64 k) ∧ w = w' := by
  go_enter Try.func35, Try.ntmps35
  go_wp2_with fail
  refine (len64_nil _).mono ?_
  rintro e w2 ⟨k, rfl, rfl⟩
  go_wp2_with fail
  go_ret
  exact ⟨_, rfl, rfl⟩
set_option maxHeartbeats 4000000 in
set_option maxRecDepth 100000 in
theorem pdq_nil (k : Int) (c : Value) (w : World) : Calls Try.prog 34 #[.slice none 0 0, .int .i64 0, .int .i64 0, .int .i64 k, c] w fun e w' => e = .returned (.tuple #[]) ∧ w = w' := by
  go_enter Try.func34, Try.ntmps34
  go_wp2_with fail
  go_loopw [1, 2] (fun s1 s2 wr => s1 = .int .i64 0 ∧ s2 = .int .i64 0 ∧ wr = w) (fun s1 s2 _ => 0)
  case atStart => exact ⟨rfl, rfl, rfl⟩
  case round =>
    obtain ⟨rfl, rfl, rfl⟩ := hrel
    go_wp2_with fail
    refine (insert_nil _ _).mono ?_
    rintro e w2 ⟨rfl, rfl⟩
    go_wp2_with fail
    (try simp only [Exit.inBlock, Exit.then])
    refine bodyPost_ret (results_none rfl _ _ _) rfl ?_
    exact ⟨rfl, rfl⟩
set_option maxHeartbeats 4000000 in
set_option maxRecDepth 100000 in
theorem sort_nil (c : Value) (w : World) : Calls Try.prog 32 #[.slice none 0 0, c] w fun e w' => e = .returned (.tuple #[]) ∧ w = w' := by
  go_enter Try.func32, Try.ntmps32
  go_wp2_with fail
  refine (len_nil _).mono ?_
  rintro e w2 ⟨k, rfl, rfl⟩
  go_wp2_with fail
  refine (pdq_nil k _ _).mono ?_
  rintro e w2 ⟨rfl, rfl⟩
  go_wp2_with fail
  go_end0
  exact ⟨rfl, rfl⟩

end Go.Proofs.Ytpkondemkpogoaa
