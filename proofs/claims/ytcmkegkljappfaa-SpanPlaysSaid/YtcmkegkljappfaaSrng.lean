/-
  A set's ranges, the greatest first, so many as are asked for. No condition.
-/
import Derived.Test.YtcmkegkljappfaaSfall
import Derived.Maps.OwnIn
namespace Go.Proofs.Ytcmkegkljappfaa
open Go.RowKit Go.Shelf
set_option linter.unusedVariables false
set_option linter.unusedSimpArgs false
attribute [local go_sem] Oper.semAt_some

/-- What is told: the greatest ranges first. -/
def rgL (m : Int) (L : List (Int × Int)) : List (Int × Int) := L.reverse.take (max m 0).toNat
section
variable {W : World} {b l : Nat} {t : TypeId} {cs : Array Value} {r : Loop} {o : Obj}
theorem Blk.other (h : Blk W b t cs) (hl : W.heap[l]? = some (.loop r)) : b ≠ l := by
  rintro rfl
  unfold Blk at h
  rw [h] at hl
  cases hl
theorem Blk.putObj (h : Blk W b t cs) (hl : W.heap[l]? = some (.loop r)) : Blk (W.putObj l o) b t cs := (World.putObj_heap_other (h.other hl)).trans h
theorem own_putObj {base n sz : Nat} {e : TypeId} {v : Value} {xs : List Value} (h : W.ownsRow base e sz v n xs) (hl : W.heap[l]? = some (.loop r)) : (W.putObj l o).ownsRow base e sz v n xs := by
  refine ⟨h.1, ?_⟩
  rcases h.2 with hh | ⟨g, cap, cur, rfl, hb, hg, rest⟩
  · exact .inl hh
  · have : Blk W g e cur := hg
    exact .inr ⟨g, cap, cur, rfl, hb, this.putObj hl, rest⟩
theorem SetR.putObj {B g : Nat} {rb : Option Nat} {L : List (Int × Int)} (h : SetR B W g rb L) (hl : W.heap[l]? = some (.loop r)) : SetR B (W.putObj l o) g rb L := by
  obtain ⟨h0, V, hr, h1, h2⟩ := h
  exact ⟨h0, V, hr, h1.putObj hl, own_putObj h2 hl⟩
theorem below_putObj {w : World} (h : Below w.heap.size w W) (hl : w.heap.size ≤ l) : Below w.heap.size w (W.putObj l o) := h.grown (grownBy_putObj' W l o) h.size (fun k e => by injection e with e; omega)
end
/-- Between two rounds. -/
structure JJ (w : World) (B g : Nat) (rb : Option Nat) (L : List (Int × Int)) (m : Int) (o : Obj) (i : Nat) (W : World) : Prop where
  out : ∃ ov, Blk W (w.heap.size + 1) 22 #[ov] ∧ W.ownsRow w.heap.size 30 2 ov i (pcs (L.reverse.take i))
  box : Blk W w.heap.size 3 #[.int .i64 m]
  set : SetR B W g rb L
  loop : W.heap[w.heap.size + 3]? = some o
  def_ : W.heap[w.heap.size + 2]? = some (.deferred (some []))
  below : Below w.heap.size w W
  len : i ≤ L.length
  le : (i : Int) ≤ max m 0
theorem JJ.put {w : World} {B g : Nat} {rb : Option Nat} {L : List (Int × Int)} {m : Int} {r : Loop} {o : Obj} {i : Nat} {W : World} (h : JJ w B g rb L m (.loop r) i W) : JJ w B g rb L m o i (W.putObj (w.heap.size + 3) o) := by
  obtain ⟨⟨ov, h1, h2⟩, h3, h4, h5, h6, h7, h8, h9⟩ := h
  exact ⟨⟨ov, h1.putObj h5, own_putObj h2 h5⟩, h3.putObj h5, h4.putObj h5, World.putObj_heap_same (Array.getElem?_eq_some_iff.1 h5).1, (World.putObj_heap_other (by omega)).trans h6, below_putObj h7 (by omega), h8, h9⟩
theorem JJ.below_ {w : World} {B g : Nat} {rb : Option Nat} {L : List (Int × Int)} {m : Int} {o : Obj} {i : Nat} {W W' : World} (h : JJ w B g rb L m o i W) (hb : Below W.heap.size W W') : JJ w B g rb L m o i W' := by
  obtain ⟨⟨ov, h1, h2⟩, h3, h4, h5, h6, h7, h8, h9⟩ := h
  exact ⟨⟨ov, h1.same hb, own_same h2 hb⟩, h3.same hb, h4.below hb, (hb.block _ (Array.getElem?_eq_some_iff.1 h5).1).trans h5, (hb.block _ (Array.getElem?_eq_some_iff.1 h6).1).trans h6, h7.trans (hb.mono h7.size), h8, h9⟩
theorem rev_take (L : List (Int × Int)) (i : Nat) (hi : i < L.length) : L.reverse.take (i + 1) = L.reverse.take i ++ [L.getD (L.length - 1 - i) (0, 0)] := by
  have h : i < L.reverse.length := by simpa using hi
  rw [List.take_succ_eq_append_getElem h]
  congr 2
  have h2 : L.length - 1 - i < L.length := by omega
  rw [List.getElem_reverse]
  simp [List.getD, h2]

/-- How a round's body may be left: it goes on, or it breaks. -/
def rdPost (w : World) (B g : Nat) (rb : Option Nat) (L : List (Int × Int)) (m : Int) (r : Loop) (i : Nat) : Exit → Act → World → Prop
  | .normal, _, W' => JJ w B g rb L m (.loop r) (i + 1) W'
  | .exit id, _, W' => id = 0 ∧ max m 0 ≤ (i : Int) ∧ JJ w B g rb L m (.loop r) i W'
  | _, _, _ => False
def xag (x : Int × Int) : Value := .agg #[.int .u64 x.1, .int .u64 x.2]
set_option maxHeartbeats 2000000 in
/-- The statement 'for r := range s.falling', whatever its codes, met by what each does. -/
theorem rng_law {assign body : Code} {Q : Exit → Act → World → Prop} {tm : Array Value} {B g : Nat} {rb : Option Nat} {L : List (Int × Int)} {m : Int} {w W0 : World}
    (h8 : ({ tmps := tm, defers := [] } : Act).eval (.tmp 8) = .func (.func 27) #[.pointer (some ⟨g, 0, none⟩)] #[]) (hsz : W0.heap.size = w.heap.size + 2) (hL : L.length ≤ 1000000)
    (hout : Blk W0 (w.heap.size + 1) 22 #[.slice none 0 0]) (hbox : Blk W0 w.heap.size 3 #[.int .i64 m]) (hset : SetR B W0 g rb L) (hbel : Below w.heap.size w W0)
    (hassign : ∀ (l : Nat) (x : Int × Int) (W : World) (K : Act → World → Prop), K { tmps := (tm.setIfInBounds 9 (xag x)).setIfInBounds 6 (.pointer (some ⟨W.heap.size, 0, none⟩)), defers := [] } (W.alloc (.cells #[.int .u64 x.1, .int .u64 x.2] 30)) →
      assign.wpIn (Fence.wide.inRound l) 1 Try.prog (Exit.then K (fun _ _ _ => False)) { tmps := tm.setIfInBounds 9 (xag x), defers := [] } W)
    (hbody : ∀ (l i b : Nat) (x : Int × Int) (W : World) (r : Loop), JJ w B g rb L m (.loop r) i W → i < L.length → x = L.getD (L.length - 1 - i) (0, 0) → Blk W b 30 #[.int .u64 x.1, .int .u64 x.2] →
      body.wpIn (Fence.wide.inRound l) 1 Try.prog (rdPost w B g rb L m r i) { tmps := (tm.setIfInBounds 9 (xag x)).setIfInBounds 6 (.pointer (some ⟨b, 0, none⟩)), defers := [] } W)
    (hdone : ∀ (W : World) (r : Loop), JJ w B g rb L m (.loop r) L.length W → Q .normal { tmps := tm, defers := [{ target := .collected (w.heap.size + 2), args := #[] }] } W)
    (hstop : ∀ (i : Nat) (W : World) (r : Loop), JJ w B g rb L m (.loop r) i W → max m 0 ≤ (i : Int) → (Code.exit 0).wpIn Fence.wide 3 Try.prog Q { tmps := tm, defers := [{ target := .collected (w.heap.size + 2), args := #[] }] } W) :
    (Code.rangeFunc (.tmp 8) #[9] assign body).wpIn Fence.wide 3 Try.prog Q { tmps := tm, defers := [] } W0 := by
  refine wpIn_rangeFunc ?_
  intro fn hfn
  have eg := enters_of Try.func27 (by kernel_rfl) rfl
  obtain ⟨rec, hrec⟩ : ∃ rec : LoopState → Option Code → Loop, rec = fun st pe => { state := st, pending := pe, fn, tmps := tm, params := #[9], assign, body, defers := w.heap.size + 2 } := ⟨_, rfl⟩
  obtain ⟨W1, hW1⟩ : ∃ W1, W1 = (W0.alloc (.deferred (some []))).alloc (.loop (rec .ready none)) := ⟨_, rfl⟩
  have hb1 : Below W0.heap.size W0 W1 := by rw [hW1]; exact ((Below.refl _ _).alloc (Nat.le_refl _) _).alloc (by simp) _
  have hl1 : W1.heap[w.heap.size + 3]? = some (.loop (rec .ready none)) := by
    rw [hW1]
    have := World.alloc_heap_new (W0.alloc (.deferred (some []))) (.loop (rec .ready none))
    rwa [World.size_alloc, hsz] at this
  have hd1 : W1.heap[w.heap.size + 2]? = some (.deferred (some [])) := by
    rw [hW1, ← hsz]
    exact (Below.heap_alloc _ _ _ (by simp)).trans (World.alloc_heap_new W0 _)
  have hJ0 : JJ w B g rb L m (.loop (rec .ready none)) 0 W1 := ⟨⟨_, hout.same hb1, World.ownsRow_nil _ _ _ _⟩, hbox.same hb1, hset.below hb1, hl1, hd1, hbel.trans (hb1.mono hbel.size), Nat.zero_le _, by omega⟩
  refine ⟨w.heap.size + 3, [{ target := .collected (w.heap.size + 2), args := #[] }], W1, { target := .fn (.func 27) #[], args := #[.pointer (some ⟨g, 0, none⟩), .func (.yield (w.heap.size + 3)) #[] #[]] }, W1, 27,
    #[.pointer (some ⟨g, 0, none⟩), .func (.yield (w.heap.size + 3)) #[] #[]], W1, ?_, ?_, fun _ _ => trivial, ?_, fun h => by simp [Fence.wide] at h, ?_⟩
  · have := run_enterLoop_outer (P := Try.prog) (w := W0) fn tm #[9] assign body
    rw [hsz] at this
    rw [hW1, hrec]
    exact this
  · simp only [resolve, h8]
    simp [go_sem]
  · simp [invoke, go_sem, eg]
  · refine (falling_any B g rb L hL 2 (w.heap.size + 3) (fun i W => JJ w B g rb L m (.loop (rec .ready none)) i W) (fun W => ∃ i : Nat, max m 0 ≤ (i : Int) ∧ JJ w B g rb L m (.loop (rec .done (some (.exit 0)))) i W)
      (fun i W h => h.set) ?_ W1 hJ0).mono ?_
    · intro i x W hJ hi hx
      have hy := run_yield (P := Try.prog) (args := #[xag x]) hJ.loop (by rw [hrec]; rfl)
      rw [hrec] at hy
      refine ⟨fn, tm.setIfInBounds 9 (xag x), assign, body, by simpa [xag] using hy, roundIn_of_wpIn hfn (hassign _ x W _ ?_)⟩
      have hbW : Below W.heap.size W (W.alloc (.cells #[.int .u64 x.1, .int .u64 x.2] 30)) := (Below.refl _ _).alloc (Nat.le_refl _) _
      have hJ1 : JJ w B g rb L m (.loop (rec .ready none)) i (W.alloc (.cells #[.int .u64 x.1, .int .u64 x.2] 30)) := hJ.below_ hbW
      refine ⟨_, run_beginRound hJ1.loop (by rw [hrec]), ?_⟩
      have hx1 := (Blk.new W 30 #[.int .u64 x.1, .int .u64 x.2]).putObj (o := .loop { rec .ready none with state := .busy }) hJ1.loop
      refine wpIn_mono (hbody _ i W.heap.size x _ _ hJ1.put hi hx hx1) ?_
      rintro e a3 W3 hp
      cases e with
      | normal =>
        refine ⟨_, _, run_endRound none hp.loop, .inl ⟨rfl, ?_⟩⟩
        have := hp.put (o := .loop (rec .ready none))
        rw [hrec] at this ⊢
        exact this
      | exit id =>
        obtain ⟨rfl, hle, hp⟩ := hp
        refine ⟨_, _, run_endRound (some (.exit 0)) hp.loop, .inr ⟨rfl, i, hle, ?_⟩⟩
        have := hp.put (o := .loop (rec .done (some (.exit 0))))
        rw [hrec] at this ⊢
        exact this
      | ret => exact hp.elim
      | goto t => exact hp.elim
      | panic ch => exact hp.elim
      | outgrown => exact hp.elim
    · rintro e W2 ⟨⟨v, rfl⟩, (h | ⟨i, hle, h⟩)⟩
      · exact ⟨none, _, by have := run_endLoop (P := Try.prog) h.loop (by rw [hrec]; simp); rw [hrec] at this; exact this, hdone _ _ h.put⟩
      · exact ⟨some (.exit 0), _, by have := run_endLoop (P := Try.prog) h.loop (by rw [hrec]; simp); rw [hrec] at this; exact this, hstop i _ _ h.put hle⟩
theorem rg_all {m : Int} {L : List (Int × Int)} (h : (L.length : Int) ≤ max m 0) : rgL m L = L.reverse.take L.length := by
  unfold rgL
  rw [List.take_of_length_le (by simp; omega), List.take_of_length_le (by simp)]
theorem rg_part {m : Int} {L : List (Int × Int)} {i : Nat} (h8 : i ≤ L.length) (h : (i : Int) ≤ max m 0) (h2 : max m 0 ≤ (i : Int)) : rgL m L = L.reverse.take i := by
  unfold rgL
  congr 1
  omega
theorem rng_end {w W : World} {ov : Value} {i b l : Nat} {x : List Deferred} {K T : List (Int × Int)} {cs : Array Value} {t : TypeId} (h2 : W.ownsRow w.heap.size 30 2 ov i (pcs T)) (h1 : Blk W b t cs) (h6 : W.heap[l]? = some (.deferred (some x))) (h7 : Below w.heap.size w W) (hl : w.heap.size ≤ l) (hK : K = T) :
    (W.putObj l (.deferred none)).ownsRow w.heap.size 30 2 ov K.length (pcs K) ∧ Below w.heap.size w (W.putObj l (.deferred none)) := by
  subst hK
  have hlen := h2.1
  rw [pcs_len] at hlen
  have hil : i = K.length := by omega
  subst hil
  refine ⟨⟨h2.1, ?_⟩, below_putObj h7 hl⟩
  rcases h2.2 with hh | ⟨g, cap, cur, rfl, hb, hg, rest⟩
  · exact .inl hh
  · refine .inr ⟨g, cap, cur, rfl, hb, (World.putObj_heap_other ?_).trans hg, rest⟩
    rintro rfl
    rw [hg] at h6
    cases h6
set_option maxHeartbeats 8000000 in
set_option maxRecDepth 100000 in
theorem ranges_any (B g : Nat) (rb : Option Nat) (L : List (Int × Int)) (m : Int) (w : World) (hs : SetR B w g rb L) (hL : L.length ≤ 1000000) :
    Calls Try.prog 13 #[.pointer (some ⟨g, 0, none⟩), .int .i64 m] w fun e w' => ∃ v, e = .returned v ∧ w'.ownsRow w.heap.size 30 2 v (rgL m L).length (pcs (rgL m L)) ∧ Below w.heap.size w w' := by
  obtain ⟨i0, hi, hz0, hz1, hz2⟩ := info_parts infoR
  have hgl := hs.lt
  obtain ⟨W0, hW0⟩ : ∃ W0, W0 = (w.alloc (.cells #[.int .i64 m] 3)).alloc (.cells #[.slice none 0 0] 22) := ⟨_, rfl⟩
  have hb0 : Below w.heap.size w W0 := by rw [hW0]; exact ((Below.refl _ _).alloc (Nat.le_refl _) _).alloc (by simp) _
  have hsz : W0.heap.size = w.heap.size + 2 := by rw [hW0]; simp
  have hbox : Blk W0 w.heap.size 3 #[.int .i64 m] := by rw [hW0]; exact (Blk.new w _ _).alloc _
  have hout : Blk W0 (w.heap.size + 1) 22 #[.slice none 0 0] := by rw [hW0]; exact blk_new_at (by simp)
  have hs0 := hs.below hb0
  refine (callsIn_wide (n := 3)).1 ?_
  refine callsIn_of_wp_marks Try.func13 rfl trivial ?_ rfl
  simp only [Try.ntmps13, List.size_toArray, List.length_cons, List.length_nil, Nat.reduceAdd, Nat.reduceSub, Array.replicate_succ, Array.replicate_zero, List.push_toArray, List.append_toArray, List.nil_append, List.cons_append]
  gi_wp2
  rw [← hW0]
  refine rng_law (B := B) (g := g) (rb := rb) (L := L) (m := m) (w := w) rfl hsz hL hout hbox hs0 hb0 ?assign ?body ?done ?stop
  case assign =>
    intro l x W K hK
    unfold xag at hK ⊢
    gi_wp2
    exact hK
  case body =>
    intro l i b x W r hJ hi' hx hb
    obtain ⟨⟨ov, h1, h2⟩, h3, h4, h5, h6, h7, h8, h9⟩ := id hJ
    obtain ⟨A, cap, hov, hnc, hcm, _⟩ := sl_of_own h2
    subst hov
    have hcm' : cap ≤ 9223372036854775807 := by unfold maxLen at hcm; omega
    have c1 : W.cell? ⟨w.heap.size + 1, 0, none⟩ = some (.slice A i cap) := h1.cell 0
    have c0 : W.cell? ⟨w.heap.size, 0, none⟩ = some (.int .i64 m) := h3.cell 0
    have f1 := h1.frozen 0
    obtain ⟨xa, xb⟩ := x
    unfold xag
    simp only at hb
    have b0 : W.cell? ⟨b, 0, none⟩ = some (.int .u64 xa) := hb.cell 0
    have b1 : W.cell? ⟨b, 1, none⟩ = some (.int .u64 xb) := hb.cell 1
    have hT := rev_take L i hi'
    rw [← hx] at hT
    have HT := Lib.hid hT
    have HJ := Lib.hid hJ
    have hbW := h7.size
    have hout1 := h2.alloc (.cells #[.int .u64 xa, .int .u64 xb] 30)
    have H1 := Lib.hid h1
    have H3 := Lib.hid h3
    have H4 := Lib.hid h4
    have H5 := Lib.hid h5
    have H6 := Lib.hid h6
    have H7 := Lib.hid h7
    have hne := own_blk_ne h2 h1 (by decide)
    have hne3 := own_blk_ne h2 h3 (by decide)
    have hlw := h1.lt
    have hnl : ∀ q, (Value.slice A i cap).ownBlock = some q → w.heap.size ≤ q ∧ q < W.heap.size ∧ q ≠ w.heap.size + 3 ∧ q ≠ w.heap.size + 2 := fun q hq => by
      obtain ⟨e1, e2⟩ := h2.lt q hq
      refine ⟨e1, e2, ?_, ?_⟩
      · rintro rfl
        rcases h2.2 with ⟨e3, _⟩ | ⟨g', c', cur', e3, _, e4, _⟩
        · rw [e3] at hq; simp [Value.ownBlock] at hq
        · rw [e3] at hq
          simp only [Value.ownBlock, Option.some.injEq] at hq
          subst hq
          rw [h5] at e4
          cases e4
      · rintro rfl
        rcases h2.2 with ⟨e3, _⟩ | ⟨g', c', cur', e3, _, e4, _⟩
        · rw [e3] at hq; simp [Value.ownBlock] at hq
        · rw [e3] at hq
          simp only [Value.ownBlock, Option.some.injEq] at hq
          subst hq
          rw [h6] at e4
          cases e4
    have hng : ∀ q, (Value.slice A i cap).ownBlock = some q → q ≠ g := fun q hq => by have := (h2.lt q hq).1; omega
    have hnr : ∀ q, (Value.slice A i cap).ownBlock = some q → rb ≠ some q := fun q hq e => by have e1 := (hs.rlt q e).2.1; have e2 := (h2.lt q hq).1; omega
    clear hT hJ h1 h3 h4 h5 h6 h7 hx
    by_cases hmi : m ≤ (i : Int)
    · gi_wp2
      exact ⟨rfl, by omega, HJ.out⟩
    · have hmi' : decide (m ≤ (i : Int)) = false := decide_eq_false hmi
      gi_wp2_with (gi_at_builtin; refine wpListIn_append_own_at _ rfl _ _ 22 rfl w.heap.size 30 i0 _ 2 16 Try.underlying22 hi hz0 hz1 hz2 rfl (by decide) _ i _ rfl hout1 ⟨W.heap.size, 0, none⟩ 1 1 (pcs [(xa, xb)]) rfl rfl (src_one (blk_new_at rfl)) (pcs_one _) (by unfold maxLen; omega) (by omega) (by simp; omega) ?_; intro v' w1 hown1 hgrow0 _ hat1; have hgrow1 : World.grownBy (W.alloc (.cells #[.int .u64 xa, .int .u64 xb] 30)) w1 (Value.slice A i cap).ownBlock := hgrow0; clear hgrow0; obtain ⟨A1, cp1, hv1, _⟩ := sl_of_own hown1; subst hv1; have k1 := ((H1.out.alloc (.cells #[.int .u64 xa, .int .u64 xb] 30)).grown hgrow1 (fun e => hne e.symm)); have d1 : w1.cell? ⟨w.heap.size + 1, 0, none⟩ = some _ := k1.cell 0; have g1 := k1.frozen 0)
      have hBal : Below W.heap.size W (W.alloc (.cells #[.int .u64 xa, .int .u64 xb] 30)) := (Below.refl _ _).alloc (Nat.le_refl _) _
      have hk3 := (H3.out.alloc (.cells #[.int .u64 xa, .int .u64 xb] 30)).grown hgrow1 (fun e => hne3 e.symm)
      have hne1 := own_blk_ne hown1 k1 (by decide)
      have hset1 : SetR B w1 g rb L := by
        obtain ⟨s0, V, sr, s1, s2⟩ := H4.out.below hBal
        refine ⟨s0, V, sr, s1.grown hgrow1 (fun e => hng _ e.symm rfl), own_grown s2 hgrow1 ?_⟩
        rcases hq : (Value.slice A i cap).ownBlock with _ | q
        · exact .inl rfl
        · exact .inr (by rw [sr]; exact hnr q hq)
      have hloop1 : w1.heap[w.heap.size + 3]? = some (.loop r) := (hgrow1.block _ (by have := (Array.getElem?_eq_some_iff.1 H5.out).1; simp; omega) (fun e => (hnl _ e.symm).2.2.1 rfl)).trans ((hBal.block _ (Array.getElem?_eq_some_iff.1 H5.out).1).trans H5.out)
      have hdef1 : w1.heap[w.heap.size + 2]? = some (.deferred (some [])) := (hgrow1.block _ (by have := (Array.getElem?_eq_some_iff.1 H6.out).1; simp; omega) (fun e => (hnl _ e.symm).2.2.2 rfl)).trans ((hBal.block _ (Array.getElem?_eq_some_iff.1 H6.out).1).trans H6.out)
      have hB1 : Below w.heap.size w w1 := (H7.out.trans (hBal.mono H7.out.size)).grown hgrow1 (by simp; omega) (fun q hq => (hnl q hq).1)
      refine ⟨⟨_, by simpa using k1.set_ 0 _, ?_⟩, hk3.far (by simp) _, ?_, (Below.heap_setCell _ _ _ _ (by simp)).trans hloop1, (Below.heap_setCell _ _ _ _ (by simp)).trans hdef1, hB1.setCell (by simp) _, by omega, by omega⟩
      · rw [HT.out, pcs_app]
        exact own_far hown1 hne1 _
      · obtain ⟨s0, V, sr, s1, s2⟩ := hset1
        exact ⟨s0, V, sr, s1.far (by simp; omega) _, own_far s2 (own_blk_ne s2 k1 (by decide)) _⟩
  case done =>
    intro W r hJ
    obtain ⟨⟨ov, h1, h2⟩, h3, h4, h5, h6, h7, h8, h9⟩ := hJ
    have hfin := rng_end (K := rgL m L) h2 h1 h6 h7 (by omega) (rg_all h9)
    obtain ⟨A, cap, hov, _⟩ := sl_of_own h2
    subst hov
    have c1 : W.cell? ⟨w.heap.size + 1, 0, none⟩ = some (.slice A L.length cap) := h1.cell 0
    gi_wp2
    refine ⟨by simp, .inl ⟨_, _, rfl, run_takeDeferred h6, ?_⟩⟩
    exact ⟨_, results_tmp rfl _ _ _, .slice A L.length cap, rfl, hfin⟩
  case stop =>
    intro i W r hJ hle
    obtain ⟨⟨ov, h1, h2⟩, h3, h4, h5, h6, h7, h8, h9⟩ := hJ
    have hfin := rng_end (K := rgL m L) h2 h1 h6 h7 (by omega) (rg_part h8 h9 hle)
    obtain ⟨A, cap, hov, _⟩ := sl_of_own h2
    subst hov
    have c1 : W.cell? ⟨w.heap.size + 1, 0, none⟩ = some (.slice A i cap) := h1.cell 0
    gi_wp2
    refine ⟨by simp, .inl ⟨_, _, rfl, run_takeDeferred h6, ?_⟩⟩
    exact ⟨_, results_tmp rfl _ _ _, .slice A i cap, rfl, hfin⟩

end Go.Proofs.Ytcmkegkljappfaa
