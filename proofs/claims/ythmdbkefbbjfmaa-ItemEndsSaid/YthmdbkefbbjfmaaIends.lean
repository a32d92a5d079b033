/-
  ItemEnds: a stream that ends within something is wrong; one that ends behind an object isn't. For every input; no condition.
-/
import Derived.Test.YthmdbkefbbjfmaaIendp
import Derived.Test.YthmdbkefbbjfmaaImap
import Derived.Test.YthmdbkefbbjfmaaIfalls
import Derived.Deep.CutBlock
namespace Go.Proofs.Ythmdbkefbbjfmaa
open Go.RowKit
set_option linter.unusedVariables false
set_option linter.unusedSimpArgs false


/-- Objects that came in, in a row. -/
structure Obi where
  G : Int
  O : Int
  P : Int
  gr : Bool
  V : Value
  l : List Int
def Obi.cells (o : Obi) : List Value := [.int .u64 o.G, .int .u64 o.O, .int .u8 o.P, .bool o.gr, o.V]
def Objs (w : World) (A : Option Addr) (n : Nat) : Prop :=
  ∀ k, k < n → ∃ (b off : Nat) (o : Obi), A = some ⟨b, off, none⟩ ∧ b < w.heap.size ∧ ObOk o.G o.O o.P ∧ Rd w .u8 o.V o.l ∧ BytesOk o.l ∧ ∀ j, j < 5 → w.cell? ⟨b, off + (k * 5 + j), none⟩ = o.cells[j]?
open Go.ChangeShapes Go.WideShapes Go.ChangeAt Go.Deep in
theorem objs_of {H : Type} {enc : TypeId × Value → H} {W : World} {A : Option Addr} {n c : Nat} {d : DataW H} {p : List MemPlace}
    (h : DataW.Trod enc Try.prog W 0 (fun _ => true) true 44 (.slice A n c) d p) : n ≤ c ∧ c ≤ maxLen ∧ Objs W A n := by
  obtain ⟨fuel, hf⟩ := h
  obtain ⟨h1, h2, _, G, hs, hk⟩ := open_elems (C := 5) Try.underlying44 (by kernel_rfl) (by decide) hf
  refine ⟨h1, h2, fun k hkn => ?_⟩
  obtain ⟨m, y, hy⟩ := hk k hkn
  obtain ⟨G', O', P', gr, V, l, ho, hok, hr, hb⟩ := obj_cells hy
  obtain ⟨b, off, e, hlt, hc⟩ := hs k hkn
  refine ⟨b, off, ⟨G', O', P', gr, V, l⟩, e, hlt, hok, hr, hb, fun j hj => ?_⟩
  rw [hc j hj, show (Obi.cells ⟨G', O', P', gr, V, l⟩) = _ from ho.symm]
  simp [hj]
theorem set_of_grown {w w' : World} {b g : Nat} {t : TypeId} {cs : Array Value} {ks : List Int} (h : SetU w b ks) (hg : Blk w g t cs) (i : Nat) (u : Value) : SetU (w.setCell ⟨g, i, none⟩ u) b ks :=
  h.grown (grown_set (grown_refl w (some g)) i u) (fun e => blk_set_ne hg h (by injection e with e; exact e.symm))
/-- What the loop carries. -/
structure EndSt (w W : World) (f : Bool) (id hg hp : Int) (mb : Nat) (v : Value) (B : List Int) (E : List Int) : Prop where
  h : Blk W w.heap.size 24 #[.bool f, .int .u64 id, .int .u64 hg, .int .u8 hp]
  own : W.ownsRow w.heap.size 5 1 v B.length (B.map (Value.int .u8))
  st : SetU W mb E
  lo : w.heap.size ≤ mb
  n : Below w.heap.size w W
section
variable {w W W' : World} {f : Bool} {id hg hp : Int} {mb g : Nat} {v : Value} {B E : List Int}
theorem EndSt.below (h : EndSt w W f id hg hp mb v B E) (hb : Below W.heap.size W W') : EndSt w W' f id hg hp mb v B E :=
  ⟨h.h.same hb, own_same h.own hb, h.st.below hb, h.lo, h.n.trans (hb.mono h.n.size)⟩
theorem EndSt.drew (h : EndSt w W f id hg hp mb v B E) : EndSt w W.drew f id hg hp mb v B E := h.below (below_drewN (Below.refl _ W) 1)
theorem EndSt.set (h : EndSt w W f id hg hp mb v B E) {cs : Array Value} (hg' : Blk W g 29 cs) (hlo : w.heap.size ≤ g) (i : Nat) (u : Value) : EndSt w (W.setCell ⟨g, i, none⟩ u) f id hg hp mb v B E :=
  ⟨h.h.far (Blk.ne_ h.h hg' (by decide)) _, own_far h.own (own_blk_ne h.own hg' (by decide)) _, set_of_grown (w' := W) h.st hg' i u, h.lo, h.n.setCell hlo u⟩
/-- An object's place in the heap, with what it needs. -/
theorem obj_store {a b c d e a' b' c' d' e' : Value} (h : EndSt w W f id hg hp mb v B E) (ho : Blk W g 29 #[a, b, c, d, e]) (hlo : w.heap.size ≤ g) :
    ∀ wz, wz = (((((W.setCell ⟨g, 0, none⟩ a').setCell ⟨g, 1, none⟩ b').setCell ⟨g, 2, none⟩ c').setCell ⟨g, 3, none⟩ d').setCell ⟨g, 4, none⟩ e') →
    EndSt w wz f id hg hp mb v B E ∧ Blk wz g 29 #[a', b', c', d', e'] ∧ (∀ V l, RdT W V l → RdT wz V l) := by
  rintro wz rfl
  have h0 := ho.set_ 0 a'
  have h1 := h0.set_ 1 b'
  have h2 := h1.set_ 2 c'
  have h3 := h2.set_ 3 d'
  have h4 := h3.set_ 4 e'
  exact ⟨((((h.set ho hlo 0 a').set h0 hlo 1 b').set h1 hlo 2 c').set h2 hlo 3 d').set h3 hlo 4 e', h4, fun V l hr => rdt_set (rdt_set (rdt_set (rdt_set (rdt_set hr ho (by decide) 0 a') h0 (by decide) 1 b') h1 (by decide) 2 c') h2 (by decide) 3 d') h3 (by decide) 4 e'⟩
theorem obj_set {a b c d e : Value} (h : EndSt w W f id hg hp mb v B E) (ho : Blk W g 29 #[a, b, c, d, e]) (hlo : w.heap.size ≤ g) (i : Nat) (u : Value) :
    EndSt w (W.setCell ⟨g, i, none⟩ u) f id hg hp mb v B E ∧ Blk (W.setCell ⟨g, i, none⟩ u) g 29 (#[a, b, c, d, e].setIfInBounds i u) ∧ (∀ V l, RdT W V l → RdT (W.setCell ⟨g, i, none⟩ u) V l) :=
  ⟨h.set ho hlo i u, ho.set_ i u, fun V l hr => rdt_set hr ho (by decide) i u⟩
theorem EndSt.app {v' : Value} {L : List Int} (h : EndSt w W f id hg hp mb v B E) (ho : W'.ownsRow w.heap.size 5 1 v' (B.length + L.length) (B.map (Value.int .u8) ++ L.map (Value.int .u8))) (hg' : W.grownBy W' v.ownBlock) : EndSt w W' f id hg hp mb v' (B ++ L) E :=
  ⟨h.h.grown hg' (Ne.symm (own_blk_ne h.own h.h (by decide))), by rw [List.length_append, List.map_append]; exact ho, h.st.grown hg' (Ne.symm (own_set_ne h.own h.st)), h.lo, h.n.grown hg' h.n.size (fun b hb => (h.own.lt b hb).1)⟩
theorem EndSt.put {E' : List Int} (h : EndSt w W f id hg hp mb v B E) (hs : SetU W' mb E') (hg' : W.grownBy W' (some mb)) : EndSt w W' f id hg hp mb v B E' :=
  ⟨h.h.grown hg' (fun e => blk_set_ne h.h h.st (by injection e)), h.own.kept hg' (.inr (own_set_ne h.own h.st)), hs, h.lo, h.n.grown hg' h.n.size (fun b hb => by injection hb with hb; subst hb; exact h.lo)⟩
end
theorem less_up (f : Bool) (G O G' O' hg k : Int) (hO : O < O') (h1 : f = true → G < G') (h2 : f = false → G = hg) (h3 : f = false → G' = hg) : lessP G O G' O' = true := by
  unfold lessP
  cases f
  · have := h2 rfl; have := h3 rfl; simp; omega
  · have := h1 rfl; simp; omega
theorem ends_put {f : Bool} {hg hp : Int} {os : List Wob} {o : Wob} {FB B Q E : List Int} (hB : B = FB ++ cat f hg hp os) (hQ : Q = wb f hg hp o) (hE : E = (endsN f hg hp os).map (fun m => ((FB.length + m : Nat) : Int))) :
    (endsN f hg hp (os ++ [o])).map (fun m => ((FB.length + m : Nat) : Int)) = E ++ [((B.length + Q.length : Nat) : Int)] := by
  rw [ends_snoc, List.map_append, hE, hB, hQ]
  simp [Nat.add_assoc, Int.add_assoc]
theorem wb_ok (f : Bool) (hg hp : Int) (o : Wob) (ho : ObOk o.G o.O o.P) (hk : BytesOk o.l) : BytesOk (wb f hg hp o) ∧ (wb f hg hp o).length ≤ 3000 := next_ok f hg hp o.G o.O o.P false o.l ho hk

set_option maxHeartbeats 8000000 in
set_option maxRecDepth 100000 in
theorem ends_walk (f : Bool) (id hg hp : Int) (A : Option Addr) (n cap : Nat) (cu : Int) (w : World) (hP : Objs w A n) (hnc : n ≤ cap) (hcm : cap ≤ maxLen) (hcu : 0 ≤ cu ∧ cu ≤ 65535) (hid : 0 ≤ id ∧ id ≤ 18446744073709551615) (hhg : 0 ≤ hg ∧ hg ≤ 18446744073709551615) (hhp : 0 ≤ hp ∧ hp ≤ 255) :
    Calls Try.prog 6 #[.agg #[.bool f, .int .u64 id, .int .u64 hg, .int .u8 hp], .slice A n cap, .int .u16 cu] w fun e w' => e = .returned (.bool true) ∧ Below w.heap.size w w' := by
  obtain ⟨i0, hi, hz0, hz1, hz2⟩ := info_parts infoB
  have hmm := @run_makeMap Try.prog
  have hq : n ≤ 9223372036854775807 := by unfold maxLen at hcm; omega
  clear hcm
  have HP := Lib.hid hP
  clear hP
  have hH := Blk.new w 24 #[.bool f, .int .u64 id, .int .u64 hg, .int .u8 hp]
  have hB := (Below.refl w.heap.size w).alloc (Nat.le_refl _) (.cells #[.bool f, .int .u64 id, .int .u64 hg, .int .u8 hp] 24)
  go_enter Try.func6, Try.ntmps6
  go_wp2_with fail
  refine (awake_any _).mono ?_
  rintro e w1 ⟨rfl, hb1⟩
  have hH1 := hH.same hb1
  have hB1 := hB.trans (hb1.mono hB.size)
  clear hH hB hb1
  have h0 : w1.cell? ⟨w.heap.size, 0, none⟩ = some (.bool f) := hH1.cell 0
  have h1 : w1.cell? ⟨w.heap.size, 1, none⟩ = some (.int .u64 id) := hH1.cell 1
  have h2 : w1.cell? ⟨w.heap.size, 2, none⟩ = some (.int .u64 hg) := hH1.cell 2
  have h3 : w1.cell? ⟨w.heap.size, 3, none⟩ = some (.int .u8 hp) := hH1.cell 3
  go_wp2_with fail
  refine (rbegin_any f id hg hp _ hid hhg hhp).mono ?_
  rintro e w2 ⟨v2, rfl, ho2, hb2⟩
  have hH2 := hH1.same hb2
  have hB2 := hB1.trans (hb2.mono hB1.size)
  have ho2 := own_base ho2 hB1.size
  clear hH1 hb2 h0 h1 h2 h3
  have hlaw := ends_law f id hg hp
  obtain ⟨hk2, hl2⟩ := begin_ok f id hg hp hid hhg hhp
  obtain ⟨⟨FB, E2⟩, hFB⟩ : ∃ x, x = beginR f id hg hp := ⟨_, rfl⟩
  rw [← hFB] at hk2 hl2 ho2 hlaw ⊢
  clear hFB
  simp only at hk2 hl2 ho2 hlaw ⊢
  have HLAW := Lib.hid hlaw
  clear hlaw
  by_cases e2 : E2 = 0
  · subst e2
    obtain ⟨A2, c2, rfl, _⟩ := sl_of_own ho2
    have hs2 := setU_made w2
    have hSt : EndSt w (w2.alloc (.map #[] 0)) f id hg hp w2.heap.size (.slice A2 FB.length c2) FB [] := ⟨hH2.alloc _, own_same ho2 ((Below.refl _ w2).alloc (Nat.le_refl _) _), hs2, hB2.size, hB2.trans (((Below.refl _ w2).alloc (Nat.le_refl _) _).mono hB2.size)⟩
    have HSt := Lib.hid hSt
    clear hSt hH2 ho2 hB1 hB2
    go_wp2_with (first | (refine wpList_ins_set _ rfl _ _ _ rfl w2.heap.size [] rfl hs2 (by decide) FB.length rfl rfl (by omega) ?_; intro w3 hs3 hg3; have hS3 := HSt.out.put hs3 hg3) | fail)
    clear hg3 hs3 hs2 HSt
    obtain ⟨mb, hmb⟩ : ∃ mb, mb = w2.heap.size := ⟨_, rfl⟩
    rw [← hmb] at hS3 ⊢
    clear hmb
    go_loopw [33, 7] (fun i s7 wr => ∃ (k : Nat) (os : List Wob) (B : List Int), k ≤ n ∧ i = .int .i64 k ∧ Good f hg hp os ∧ (∀ o ∈ os, o.O < k ∧ (f = true → o.G < k) ∧ (f = false → o.G = hg)) ∧ os.length ≤ 8 ∧ os.length ≤ k ∧ B = FB ++ cat f hg hp os ∧ B.length ≤ 100 + 3000 * os.length ∧ BytesOk B ∧
      EndSt w wr f id hg hp mb s7 B ((endsN f hg hp os).map (fun m => ((FB.length + m : Nat) : Int)))) (fun i _ _ => n - (intOf i).toNat)
    case atStart => exact ⟨0, [], FB, Nat.zero_le _, rfl, good_nil _ _ _, fun o ho => (by simp at ho), by decide, Nat.le_refl _, by simp [cat], by simpa using hl2, hk2, hS3⟩
    case round =>
      clear hS3
      obtain ⟨k, os, B, hkn, rfl, hgd, hpl, hos8, hosk, hBB, hBl, hBk, hS⟩ := hrel
      have HG := Lib.hid hgd
      have HPL := Lib.hid hpl
      have HBB := Lib.hid hBB
      have HBK := Lib.hid hBk
      obtain ⟨E, hE⟩ : ∃ E, E = (endsN f hg hp os).map (fun m => ((FB.length + m : Nat) : Int)) := ⟨_, rfl⟩
      rw [← hE] at hS
      have HE := Lib.hid hE
      have hEl : E.length = os.length + 1 := by rw [hE]; simp [ends_len]
      clear hgd hpl hBB hBk hE
      obtain ⟨Ap, cp, rfl, _⟩ := sl_of_own hS.own
      by_cases hlt : k < n
      · obtain ⟨b, off, o, rfl, hb, ho, hR, hK, hc0⟩ := HP.out k hlt
        have hcW := fun j hj => (hS.n.cell (p := ⟨b, off + (k * 5 + j), none⟩) hb).trans (hc0 j hj)
        clear hc0
        have hbr := Nat.lt_of_lt_of_le hb hS.n.size
        obtain ⟨G, O, P, gr, V, l⟩ := o
        simp only at ho hK hR
        obtain ⟨Av, cv, rfl⟩ := hR.form
        have c0 : wr.cell? ⟨b, off + k * 5, none⟩ = some (.int .u64 G) := by simpa [Obi.cells] using hcW 0 (by decide)
        have c1 : wr.cell? ⟨b, off + k * 5 + 1, none⟩ = some (.int .u64 O) := by simpa [Obi.cells, Nat.add_assoc] using hcW 1 (by decide)
        have c2 : wr.cell? ⟨b, off + k * 5 + 2, none⟩ = some (.int .u8 P) := by simpa [Obi.cells, Nat.add_assoc] using hcW 2 (by decide)
        have c3 : wr.cell? ⟨b, off + k * 5 + 3, none⟩ = some (.bool gr) := by simpa [Obi.cells, Nat.add_assoc] using hcW 3 (by decide)
        have c4 : wr.cell? ⟨b, off + k * 5 + 4, none⟩ = some (.slice Av l.length cv) := by simpa [Obi.cells, Nat.add_assoc] using hcW 4 (by decide)
        clear hcW
        have hO1 := Blk.new wr 29 #[.int .u64 G, .int .u64 O, .int .u8 P, .bool gr, .slice Av l.length cv]
        have hS1 := hS.below ((Below.refl _ wr).alloc (Nat.le_refl _) (.cells #[.int .u64 G, .int .u64 O, .int .u8 P, .bool gr, .slice Av l.length cv] 29))
        have hSn := hS.n.size
        have HS1 := Lib.hid hS1
        have HO1 := Lib.hid hO1
        clear hS1 hO1 hS
        go_wp2_with fail
        refine (few_any G O P gr _ l _ (hR.below HS1.out.n)).mono ?_
        rintro e w4 ⟨V4, rfl, ho4, hb4⟩
        have hS4 := HS1.out.below hb4
        have hO4 := HO1.out.same hb4
        have r4 := rdt_of_own ho4
        clear c0 c1 c2 c3 c4
        have hK4 : BytesOk (l.take 2100) := hK.take _
        have hl4 : (l.take 2100).length ≤ 2100 := by simp; omega
        obtain ⟨L4, hL4⟩ : ∃ L, L = l.take 2100 := ⟨_, rfl⟩
        rw [← hL4] at r4 hK4 hl4
        obtain ⟨A4, k4, rfl⟩ := r4.form
        clear HS1 HO1 hb4 ho4 hL4 hK hR
        obtain ⟨ob, hob⟩ : ∃ ob, ob = wr.heap.size := ⟨_, rfl⟩
        rw [← hob] at hO4 hSn ⊢
        clear hob
        have o0 : World.cell? w4 ⟨ob, 0, none⟩ = some (.int .u64 G) := hO4.cell 0
        have o1 : World.cell? w4 ⟨ob, 1, none⟩ = some (.int .u64 O) := hO4.cell 1
        have o2 : World.cell? w4 ⟨ob, 2, none⟩ = some (.int .u8 P) := hO4.cell 2
        have o3 : World.cell? w4 ⟨ob, 3, none⟩ = some (.bool gr) := hO4.cell 3
        have o4 : World.cell? w4 ⟨ob, 4, none⟩ = some (.slice Av l.length cv) := hO4.cell 4
        have u0 := hO4.frozen 0
        have u1 := hO4.frozen 1
        have u2 := hO4.frozen 2
        have u3 := hO4.frozen 3
        have u4 := hO4.frozen 4
        obtain ⟨hS5, hO5, hR5⟩ := obj_store (a' := .int .u64 G) (b' := .int .u64 O) (c' := .int .u8 P) (d' := .bool gr) (e' := .slice A4 L4.length k4) hS4 hO4 hSn _ rfl
        have HS5 := Lib.hid hS5
        have HO5 := Lib.hid hO5
        have r5 := Lib.hid (hR5 _ _ r4)
        clear hS5 hO5 hR5 hS4 hO4 r4
        go_wp2_with fail
        refine (show Calls Try.prog 19 #[_, .int .i64 50] _ _ from cut_any (.slice A4 L4.length k4) L4 50 _ r5.out.1 (by omega)).mono ?_
        rintro e w6 ⟨V6, rfl, ho6, hb6⟩
        have hS6 := HS5.out.below hb6
        have hO6 := HO5.out.same hb6
        have r6 := rdt_of_own ho6
        clear o0 o1 o2 o3 o4
        clear u0 u1 u2 u3 u4
        have hK6 : BytesOk (L4.take 50) := hK4.take _
        have hl6 : (L4.take 50).length ≤ 50 := by simp; omega
        obtain ⟨L6, hL6⟩ : ∃ L, L = L4.take 50 := ⟨_, rfl⟩
        rw [← hL6] at r6 hK6 hl6
        obtain ⟨A6, k6, rfl⟩ := r6.form
        clear HS5 HO5 r5 hb6 ho6 hL6 hK4 hl4
        have o0 : World.cell? w6 ⟨ob, 0, none⟩ = some (.int .u64 G) := hO6.cell 0
        have o1 : World.cell? w6 ⟨ob, 1, none⟩ = some (.int .u64 O) := hO6.cell 1
        have o2 : World.cell? w6 ⟨ob, 2, none⟩ = some (.int .u8 P) := hO6.cell 2
        have o3 : World.cell? w6 ⟨ob, 3, none⟩ = some (.bool gr) := hO6.cell 3
        have o4 : World.cell? w6 ⟨ob, 4, none⟩ = some (.slice A4 L4.length k4) := hO6.cell 4
        have u0 := hO6.frozen 0
        have u1 := hO6.frozen 1
        have u2 := hO6.frozen 2
        have u3 := hO6.frozen 3
        have u4 := hO6.frozen 4
        have h0 : World.cell? w6 ⟨w.heap.size, 0, none⟩ = some (.bool f) := hS6.h.cell 0
        have h1 : World.cell? w6 ⟨w.heap.size, 1, none⟩ = some (.int .u64 id) := hS6.h.cell 1
        have h2 : World.cell? w6 ⟨w.heap.size, 2, none⟩ = some (.int .u64 hg) := hS6.h.cell 2
        have h3 : World.cell? w6 ⟨w.heap.size, 3, none⟩ = some (.int .u8 hp) := hS6.h.cell 3
        obtain ⟨hS7, hO7, hR7⟩ := obj_set hS6 hO6 hSn 3 (.bool false)
        have hO7 := show Blk _ ob 29 #[.int .u64 G, .int .u64 O, .int .u8 P, .bool false, .slice A4 L4.length k4] from hO7
        obtain ⟨hS8, hO8, hR8⟩ := obj_set hS7 hO7 hSn 4 (.slice A6 L6.length k6)
        have hO8 := show Blk _ ob 29 #[.int .u64 G, .int .u64 O, .int .u8 P, .bool false, .slice A6 L6.length k6] from hO8
        have r8 := hR8 _ _ (hR7 _ _ r6)
        have HS8 := Lib.hid hS8
        have HO8 := Lib.hid hO8
        have HR8 := Lib.hid r8
        clear hS6 hO6 hR7 hR8 r6 hS7 hO7 hS8 hO8 r8
        go_upto_if 47 with (fail)
        go_cut [] (fun wx => ∃ G' P', ObOk G' k P' ∧ (f = true → G' = k) ∧ (f = false → G' = hg) ∧ EndSt w wx f id hg hp mb (.slice Ap B.length cp) B E ∧ Blk wx ob 29 #[.int .u64 G', .int .u64 O, .int .u8 P', .bool false, .slice A6 L6.length k6] ∧ RdT wx (.slice A6 L6.length k6) L6)
        case first =>
          cases f
          · go_wp2_with fail
            refine wp_world (fun wz => EndSt w wz false id hg hp mb (.slice Ap B.length cp) B E ∧ Blk wz ob 29 #[.int .u64 G, .int .u64 O, .int .u8 P, .bool false, .slice A6 L6.length k6] ∧ RdT wz (.slice A6 L6.length k6) L6) ⟨HS8.out, HO8.out, HR8.out⟩ ?_
            clear o0 o1 o2 o3 o4
            clear u0 u1 u2 u3 u4
            clear h0 h1 h2 h3
            clear HS8 HO8 HR8
            rintro wz ⟨hS, hO, hR⟩
            have o0 : World.cell? wz ⟨ob, 0, none⟩ = some (.int .u64 G) := hO.cell 0
            have o1 : World.cell? wz ⟨ob, 1, none⟩ = some (.int .u64 O) := hO.cell 1
            have o2 : World.cell? wz ⟨ob, 2, none⟩ = some (.int .u8 P) := hO.cell 2
            have o3 : World.cell? wz ⟨ob, 3, none⟩ = some (.bool false) := hO.cell 3
            have o4 : World.cell? wz ⟨ob, 4, none⟩ = some (.slice A6 L6.length k6) := hO.cell 4
            have u0 := hO.frozen 0
            have u1 := hO.frozen 1
            have u2 := hO.frozen 2
            have u3 := hO.frozen 3
            have u4 := hO.frozen 4
            have h0 : World.cell? wz ⟨w.heap.size, 0, none⟩ = some (.bool false) := hS.h.cell 0
            have h1 : World.cell? wz ⟨w.heap.size, 1, none⟩ = some (.int .u64 id) := hS.h.cell 1
            have h2 : World.cell? wz ⟨w.heap.size, 2, none⟩ = some (.int .u64 hg) := hS.h.cell 2
            have h3 : World.cell? wz ⟨w.heap.size, 3, none⟩ = some (.int .u8 hp) := hS.h.cell 3
            go_region
            all_goals
              go_wp2_with fail
              go_meet
              obtain ⟨hSa, hOa, hRa⟩ := obj_set hS hO hSn 0 (.int .u64 hg)
              obtain ⟨hSb, hOb, hRb⟩ := obj_set hSa hOa hSn 2 (.int .u8 hp)
              exact ⟨hg, hp, ⟨hhg, by omega, hhp⟩, fun h => (by cases h), fun _ => rfl, by first | exact hSb | exact hSb.drew, by first | exact hOb | exact hOb.drew, by first | exact hRb _ _ (hRa _ _ hR) | exact (hRb _ _ (hRa _ _ hR)).drew⟩
          · go_wp2_with fail
            go_meet
            obtain ⟨hSa, hOa, hRa⟩ := obj_set HS8.out HO8.out hSn 0 (.int .u64 k)
            exact ⟨k, P, ⟨by omega, by omega, ho.p⟩, fun _ => rfl, fun h => (by cases h), hSa, hOa, hRa _ _ HR8.out⟩
        case rest =>
          obtain ⟨G', P', hob', hG1, hG2, hS, hO, hR⟩ := hcut
          clear o0 o1 o2 o3 o4
          clear u0 u1 u2 u3 u4
          clear h0 h1 h2 h3
          clear HS8 HO8 HR8 ho
          have o0 : World.cell? wc ⟨ob, 0, none⟩ = some (.int .u64 G') := hO.cell 0
          have o1 : World.cell? wc ⟨ob, 1, none⟩ = some (.int .u64 O) := hO.cell 1
          have o2 : World.cell? wc ⟨ob, 2, none⟩ = some (.int .u8 P') := hO.cell 2
          have o3 : World.cell? wc ⟨ob, 3, none⟩ = some (.bool false) := hO.cell 3
          have o4 : World.cell? wc ⟨ob, 4, none⟩ = some (.slice A6 L6.length k6) := hO.cell 4
          have u0 := hO.frozen 0
          have u1 := hO.frozen 1
          have u2 := hO.frozen 2
          have u3 := hO.frozen 3
          have u4 := hO.frozen 4
          have h0 : World.cell? wc ⟨w.heap.size, 0, none⟩ = some (.bool f) := hS.h.cell 0
          have h1 : World.cell? wc ⟨w.heap.size, 1, none⟩ = some (.int .u64 id) := hS.h.cell 1
          have h2 : World.cell? wc ⟨w.heap.size, 2, none⟩ = some (.int .u64 hg) := hS.h.cell 2
          have h3 : World.cell? wc ⟨w.heap.size, 3, none⟩ = some (.int .u8 hp) := hS.h.cell 3
          have hne := Blk.ne_ hS.h hO (by decide)
          have hne' := Ne.symm hne
          obtain ⟨hS9, hO9, hR9⟩ := obj_set hS hO hSn 1 (.int .u64 k)
          have HS9 := Lib.hid hS9
          have HR9 := Lib.hid (hR9 _ _ hR)
          clear hS hO hR hS9 hO9 hR9
          go_wp2_with fail
          refine (rnext_any f id hg hp G' k P' false _ L6 _ HR9.out.1 (by omega) hob').mono ?_
          rintro e w10 ⟨v10, rfl, ho10, hb10⟩
          have hS10 := HS9.out.below hb10
          clear o0 o1 o2 o3 o4
          clear u0 u1 u2 u3 u4
          clear h0 h1 h2 h3
          clear HS9 HR9 hb10
          have hQw := wb_ok f hg hp ⟨G', k, P', L6⟩ hob' hK6
          obtain ⟨⟨Q, E10⟩, hQ⟩ : ∃ x, x = nextR f hg hp G' k P' false L6 := ⟨_, rfl⟩
          have hQ1 : Q = wb f hg hp ⟨G', k, P', L6⟩ := by unfold wb; simp only; rw [← hQ]
          have HQ2 : Hid (E10 = (nextR f hg hp G' k P' false L6).2) := Lib.hid (by rw [← hQ])
          rw [← hQ] at ho10 ⊢
          rw [← hQ1] at hQw
          clear hQ
          simp only at ho10 ⊢
          obtain ⟨hQk, hQl⟩ := hQw
          obtain ⟨A10, k10, rfl⟩ := (rd_of_own (k := .u8) (l := Q) ho10).form
          have HRq := Lib.hid (rd_of_own (k := .u8) (l := Q) ho10).rdv
          clear ho10
          have hsz10 := hS10.n.size
          have HN0 : Hid (∀ o ∈ os, o.O < ((k + 1 : Nat) : Int) ∧ (f = true → o.G < ((k + 1 : Nat) : Int)) ∧ (f = false → o.G = hg)) := Lib.hid (fun o ho => ⟨by have := (HPL.out o ho).1; omega, fun h => by have := (HPL.out o ho).2.1 h; omega, (HPL.out o ho).2.2⟩)
          by_cases k8 : k < 8
          · have k8' : decide ((k : Int) < 8) = true := by simpa using (by omega : (k : Int) < 8)
            by_cases e0 : E10 = 0
            · subst e0
              have HN : Hid (Good f hg hp (os ++ [⟨G', k, P', L6⟩]) ∧ (∀ o ∈ os ++ [⟨G', k, P', L6⟩], o.O < ((k + 1 : Nat) : Int) ∧ (f = true → o.G < ((k + 1 : Nat) : Int)) ∧ (f = false → o.G = hg)) ∧ B ++ Q = FB ++ cat f hg hp (os ++ [⟨G', k, P', L6⟩]) ∧ BytesOk (B ++ Q) ∧ (endsN f hg hp (os ++ [⟨G', k, P', L6⟩])).map (fun m => ((FB.length + m : Nat) : Int)) = E ++ [((B.length + Q.length : Nat) : Int)]) := by
                refine Lib.hid ⟨good_snoc HG.out _ hob'.g.1 (by simp) HQ2.out.symm (fun a ha => less_up f _ _ _ _ hg k (HPL.out a ha).1 (fun h => by rw [hG1 h]; exact (HPL.out a ha).2.1 h) (HPL.out a ha).2.2 hG2), fun o ho => ?_, by rw [cat_snoc, HBB.out, List.append_assoc, hQ1], fun x hx => ?_, ends_put HBB.out hQ1 HE.out⟩
                · rcases List.mem_append.1 ho with ho | ho
                  · exact HN0.out o ho
                  · simp at ho
                    subst ho
                    exact ⟨by simp only; omega, fun h => by simp only; rw [hG1 h]; omega, hG2⟩
                · rcases List.mem_append.1 hx with hx | hx
                  · exact HBK.out x hx
                  · exact hQk x hx
              clear hQ1 hG1 hG2 HQ2 HE HBB HG HPL HN0
              go_wp2_with (first | (at_builtin; refine wpList_append_any _ rfl _ _ 27 rfl w.heap.size 5 i0 _ 1 1 Try.underlying27 hi hz0 hz1 hz2 rfl (by decide) _ B.length _ rfl hS10.own A10 Q.length k10 _ rfl HRq.out.2.2.2.2 (oneInts _ _) (by unfold maxLen; omega) (by omega) (by omega) HRq.out.2.1 ?_; intro v11 w11 hown11 hgrow11 hat11; have hS11 := hS10.app hown11 hgrow11; obtain ⟨A11, c11, rfl, _⟩ := sl_of_own hown11) | (at_mapUpdate; refine wpList_put_set _ rfl _ _ _ rfl mb E rfl hS11.st (by omega) (B.length + Q.length : Nat) rfl rfl (by omega) ?_; intro w12 hs12 hg12; have hS12 := hS11.put hs12 hg12) | fail)
              go_roundw
              case rel => exact ⟨k + 1, os ++ [⟨G', k, P', L6⟩], B ++ Q, by omega, by go_num, HN.out.1, HN.out.2.1, by simp; omega, by simp; omega, HN.out.2.2.1, by simp; omega, HN.out.2.2.2.1, by rw [HN.out.2.2.2.2]; exact hS12⟩
              case measure => simp [intOf]; omega
            · have e0' : (E10 == 0) = false := by simpa using e0
              clear e0 HQ2
              go_wp2_with fail
              go_roundw
              case rel => exact ⟨k + 1, os, B, by omega, by go_num, HG.out, HN0.out, hos8, by omega, HBB.out, hBl, HBK.out, by rw [← HE.out]; exact hS10⟩
              case measure => simp [intOf]; omega
          · have k8' : decide ((k : Int) < 8) = false := by simpa using (by omega : 8 ≤ (k : Int))
            clear HQ2
            go_wp2_with fail
            go_roundw
            case rel => exact ⟨k + 1, os, B, by omega, by go_num, HG.out, HN0.out, hos8, by omega, HBB.out, hBl, HBK.out, by rw [← HE.out]; exact hS10⟩
            case measure => simp [intOf]; omega

      · obtain rfl : k = n := by omega
        have hnz : ((B.length : Int) + 1 == 0) = false := by simp; omega
        have hB1 : B.length ≤ 30000 := by omega
        obtain ⟨K, hK⟩ : ∃ K : Nat, (K : Int) = cu % ((B.length : Int) + 1) := ⟨(cu % ((B.length : Int) + 1)).toNat, by have := Int.emod_nonneg cu (show ((B.length : Int) + 1) ≠ 0 by omega); omega⟩
        have hKl : K ≤ B.length := by have := Int.emod_lt_of_pos cu (show 0 < ((B.length : Int) + 1) by omega); omega
        have HK := Lib.hid hK
        clear hK
        go_wp2_with fail
        rw [← HK.out]
        clear HK hnz
        refine (newReader_any _).mono ?_
        rintro e w5 ⟨rg, rfl, hrb, hrg, hb5⟩
        have hS5 := hS.below hb5
        have hsn := hS.n.size
        clear hb5 hS
        go_wp2_with fail
        refine (put_new rg _ (B.take K) true w5 hrb ((rd_of_own (k := .u8) (l := B) hS5.own).pre hKl) (HBK.out.take K) (by simp; omega)).mono ?_
        rintro e w6 ⟨kk, obs, ov, hc1, hc2, rfl, _, _, _, hg6⟩
        have hlawK := HLAW.out os hid.1 hhg.1 trivial HG.out K (by rw [← HBB.out]; exact hKl) kk (by rw [← HBB.out]; exact hc1) (by rw [← HBB.out]; exact hc2)
        rw [← HBB.out, ← HE.out] at hlawK
        have hs6 := hS5.st.grown hg6 (fun e => blk_set_ne hrb hS5.st (by injection e with e; exact e.symm))
        have hB6 := hS5.n.grown hg6 hS5.n.size (fun b hb => by injection hb with hb; omega)
        obtain ⟨PE, hPE⟩ : ∃ x, x = putE (iterR kk (rs0 (B.take K))).e true := ⟨_, rfl⟩
        rw [← hPE] at hlawK ⊢
        clear hPE hc1 hc2 hrb hg6 hS5
        have HL := Lib.hid hlawK
        clear hlawK
        go_wp2_with (first | (at_lookup; refine wpList_look_set _ rfl _ _ rfl mb E rfl hs6 K rfl (by omega) ?_; rw [← HL.out]) | fail)
        go_ret
        exact ⟨by simp, hB6⟩

  · have g2 : (E2 != 0) = true := by simpa using e2
    clear e2
    go_wp2_with fail
    go_ret
    exact ⟨rfl, hB2⟩
open Go.ChangeShapes Go.WideShapes Go.ChangeAt
set_option maxRecDepth 100000 in
theorem ends_lifted (os : Os) (started : os.Started) (H : Type) (enc : TypeId × Value → H) :
    ReturnsInHanded {} Try.checked os 6 .any (Rows.itemEndsSpec.pre6 enc Try.prog Try.f6 Rows.itemEndsRow.domain false) (Rows.itemEndsSpec.post enc Try.prog Try.f6 false true false false) := by
  refine returnsInHanded_of_change (C := Try.checked) own started (by kernel_rfl) Try.func6
    (ChangeSpec.witness6 (enc := enc) (C := Try.checked) false ⟨#[], #[.agg #[.bool false, .int .u64 0, .int .u64 0, .int .u8 0], .slice none 0 0, .int .u16 0], []⟩ 8 (by kernel_rfl) (by kernel_rfl) (by kernel_rfl) (by kernel_rfl)) ?_
  intro W base args ds gs before hval0 hW hcnd _
  have hval : ∀ (j : Nat) t v, Try.f6.params[j]? = some t → args[j]? = some v → Value.okWide Try.prog W .any base t v := hval0
  have hW' := hW
  obtain ⟨p, q, hA0, hV, rfl, hfz, hnd⟩ := hW
  have hA : DataW.TrodAll enc Try.prog W 0 (fun _ => true) true Try.f6.params.toList args.toList ds p := hA0
  rw [Try.params6] at hA hval
  obtain ⟨v0, vs0, d0, ds0, p0, q0, hargs, rfl, rfl, h0, r0⟩ := trodAll_cons hA
  obtain ⟨v1, vs1, d1, ds1, p1, q1, rfl, rfl, rfl, h1, r1⟩ := trodAll_cons r0
  obtain ⟨v2, vs2, d2, ds2, p2, q2, rfl, rfl, rfl, h2, r2⟩ := trodAll_cons r1
  obtain ⟨rfl, rfl, rfl⟩ := trodAll_nil r2
  obtain rfl : args = #[v0, v1, v2] := by cases args; simp_all
  obtain ⟨rfl, rfl⟩ := trodVars_none hV
  have k0 := h0
  have lt0 : ∀ x ∈ p0, x.block < W.heap.size := by obtain ⟨m, hm⟩ := k0; exact DataW.trod_lt m _ _ _ hm
  obtain ⟨f0, i0, g0, s0, rfl, u0, x0, y0⟩ := head_of (hval 0 24 v0 rfl rfl) h0
  obtain ⟨A1, len1, cap1, rfl⟩ := okWide_slice Try.underlying44 (hval 1 44 v1 rfl rfl)
  have k1 := h1
  have lt1 : ∀ x ∈ p1, x.block < W.heap.size := by obtain ⟨m, hm⟩ := k1; exact DataW.trod_lt m _ _ _ hm
  obtain ⟨hn1, hm1, hO1⟩ := objs_of h1
  obtain ⟨a2, rfl, rfl, rfl, w2⟩ := open_int Try.underlying58 (hval 2 58 v2 rfl rfl) h2
  clear hA0 hval0
  refine (ends_walk f0 i0 g0 s0 A1 len1 cap1 a2 W hO1 hn1 hm1 (bounds_u16 w2) u0 x0 y0).mono fun e W' ⟨he, bel⟩ => ?_
  subst he
  exact ⟨_, rfl, _, _, _, [], _, [], hW', trodAll_mk1 (shut_bool Try.underlying4 _), (trodAll_cons_mk (Below.trod laidOut (by kernel_rfl) (of_decide_eq_true (by kernel_rfl)) k0 bel lt0) (trodAll_cons_mk (Below.trod laidOut (by kernel_rfl) (of_decide_eq_true (by kernel_rfl)) k1 bel lt1) (trodAll_cons_mk (shut_int Try.underlying58 w2) trodAll_mk0))), rfl, bel.frame _, fun h => by cases h⟩

theorem ends_holds : Rows.ItemEndsSaid :=
  OpenClaim.holds_of_wide 6 Try.f6 rfl rfl rfl rfl rfl rfl rfl ⟨rfl, rfl, rfl, rfl, rfl⟩ rfl rfl rfl rfl rfl (by kernel_rfl) Try.func6 (by kernel_rfl)
    (of_decide_eq_true (by kernel_rfl)) (by unfold Func.isWrapper; first | (rw [if_pos (by decide +kernel)]; kernel_rfl) | (rw [if_neg (by decide +kernel)]; exact ⟨rfl, rfl⟩))
    (fun os started H enc _ => ends_lifted os started H enc)
#print axioms ends_holds

end Go.Proofs.Ythmdbkefbbjfmaa
