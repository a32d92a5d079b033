/-
  Both ledgers side by side: what each call on either does. No condition.
-/
import Derived.Test.YtohjifbkjfnkfaaLnil
import Derived.Test.YtohjifbkjfnkfaaLops
namespace Go.Proofs.Ytohjifbkjfnkfaa
open Go.RowKit
set_option linter.unusedVariables false
set_option linter.unusedSimpArgs false


structure Bo (B : Nat) (w0 w : World) (g gx ob : Nat) (oc : Array Value) (L : List Pk) (nx ak : Int) (sm : Bool) (LL : List Rp) (nx' ak' : Int) (sm' : Bool) : Prop where
  p : Led B w g L nx ak sm
  r : RLed B w gx LL nx' ak' sm'
  o : Blk w ob 52 oc
  s : B ≤ w.heap.size
  b : Below B w0 w
/-- What is plain of both. -/
structure Pu (k : Nat) (L : List Pk) (nx ak : Int) (sm : Bool) (LL : List Rp) : Prop where
  e : opn LL = L
  q : ∀ q ∈ LL, PkOk q.1
  n : LL.length ≤ k
  a : 0 ≤ ak ∧ ak ≤ 18446744073709551615
  s : sm = false → ak = 0
  x : 0 ≤ nx ∧ nx ≤ 4611686018427387904
theorem opn_len (LL : List Rp) : (opn LL).length ≤ LL.length := by
  simp only [opn, List.length_map]
  exact List.length_filter_le _ _
theorem Pu.len {k : Nat} {L : List Pk} {nx ak : Int} {sm : Bool} {LL : List Rp} (h : Pu k L nx ak sm LL) : L.length ≤ k := by
  have := opn_len LL
  rw [h.e] at this
  exact Nat.le_trans this h.n
theorem Pu.ok {k : Nat} {L : List Pk} {nx ak : Int} {sm : Bool} {LL : List Rp} (h : Pu k L nx ak sm LL) : ∀ p ∈ L, PkOk p := by
  intro p hp
  rw [← h.e] at hp
  simp only [opn, List.mem_map, List.mem_filter] at hp
  obtain ⟨q, ⟨hq, _⟩, rfl⟩ := hp
  exact h.q q hq
theorem Pu.gone {k : Nat} {L : List Pk} {nx ak : Int} {sm : Bool} {LL : List Rp} (h : Pu k L nx ak sm LL) (f : Pk → Bool) : Pu k (L.filter (fun p => !f p)) nx ak sm (LL.map (mark f)) := by
  refine ⟨by rw [opn_mark, h.e], fun q hq => ?_, by simpa using h.n, h.a, h.s, h.x⟩
  obtain ⟨q', hq', rfl⟩ := List.mem_map.1 hq
  have := h.q q' hq'
  unfold mark
  split <;> simpa using this
theorem Pu.more {k : Nat} {L : List Pk} {nx ak : Int} {sm : Bool} {LL : List Rp} (h : Pu k L nx ak sm LL) (p : Pk) (hp : PkOk p) : Pu (k + 1) (L ++ [p]) (p.num + 1) ak sm (LL ++ [(p, false)]) := by
  obtain ⟨⟨h1, h2⟩, _⟩ := id hp
  refine ⟨by rw [← h.e]; simp [opn], fun q hq => ?_, by have := h.n; simp; omega, h.a, h.s, by omega, by omega⟩
  rcases List.mem_append.1 hq with hq | hq
  · exact h.q q hq
  · simp only [List.mem_singleton] at hq
    subst hq
    exact hp
theorem Pu.mono {k : Nat} {L : List Pk} {nx ak : Int} {sm : Bool} {LL : List Rp} (h : Pu k L nx ak sm LL) : Pu (k + 1) L nx ak sm LL := ⟨h.e, h.q, by have := h.n; omega, h.a, h.s, h.x⟩
theorem Pu.ack {k : Nat} {L : List Pk} {nx ak : Int} {sm : Bool} {LL : List Rp} (h : Pu k L nx ak sm LL) (R : List (Int × Int)) (n : Nat) (hn : R.length = n) (hR : PairsOk R) : Pu k L nx (ackI ak R) (sm || decide (0 < n)) LL := by
  refine ⟨h.e, h.q, h.n, ?_, ?_, h.x⟩
  · have key : ∀ (R : List (Int × Int)) (a : Int), (0 ≤ a ∧ a ≤ 18446744073709551615) → PairsOk R → (0 ≤ ackI a R ∧ ackI a R ≤ 18446744073709551615) := by
      intro R
      induction R with
      | nil => intro a ha _; exact ha
      | cons x R ih =>
        intro a ha hR
        have hx := (hR x (by simp)).2
        exact ih (max a x.2) (by omega) (fun y hy => hR y (by simp [hy]))
    exact key R ak h.a hR
  · intro hs
    cases R with
    | nil => simp only [ackI, List.foldl_nil]; exact h.s (by revert hs; cases sm <;> simp)
    | cons x R => simp at hn; subst hn; simp at hs
section
variable {B : Nat} {w0 w w' : World} {g gx ob : Nat} {oc : Array Value} {L : List Pk} {nx ak : Int} {sm : Bool} {LL : List Rp} {nx' ak' : Int} {sm' : Bool}
theorem KeepL.size' (h : KeepL w w') : w.heap.size ≤ w'.heap.size := h.size
theorem Bo.drew (h : Bo B w0 w g gx ob oc L nx ak sm LL nx' ak' sm') : Bo B w0 w.drew g gx ob oc L nx ak sm LL nx' ak' sm' := ⟨h.p, h.r, h.o, h.s, below_drewN h.b 1⟩
theorem Bo.drewN (h : Bo B w0 w g gx ob oc L nx ak sm LL nx' ak' sm') (n : Nat) : Bo B w0 (w.drewN n) g gx ob oc L nx ak sm LL nx' ak' sm' := ⟨h.p, h.r, h.o, h.s, below_drewN h.b n⟩
theorem Bo.below (h : Bo B w0 w g gx ob oc L nx ak sm LL nx' ak' sm') (hb : Below w.heap.size w w') : Bo B w0 w' g gx ob oc L nx ak sm LL nx' ak' sm' := ⟨h.p.below hb, h.r.below hb, h.o.same hb, Nat.le_trans h.s hb.size, h.b.trans (hb.mono h.s)⟩
theorem Bo.setT {L' : List Pk} {nx1 ak1 : Int} {sm1 : Bool} (h : Bo B w0 w g gx ob oc L nx ak sm LL nx' ak' sm') (hp : Led B w' g L' nx1 ak1 sm1) (hk : KeepL w w') (hb : Below B w w') : Bo B w0 w' g gx ob oc L' nx1 ak1 sm1 LL nx' ak' sm' := ⟨hp, h.r.keep hk, hk.blk h.o (by decide) (by decide), Nat.le_trans h.s hk.size, h.b.trans hb⟩
theorem Bo.setX {LL' : List Rp} {nx1 ak1 : Int} {sm1 : Bool} (h : Bo B w0 w g gx ob oc L nx ak sm LL nx' ak' sm') (hp : RLed B w' gx LL' nx1 ak1 sm1) (hk : KeepR w w') (hb : Below B w w') : Bo B w0 w' g gx ob oc L nx ak sm LL' nx1 ak1 sm1 := ⟨h.p.keep hk, hp, hk.blk h.o (by decide) (by decide), Nat.le_trans h.s hk.size, h.b.trans hb⟩
theorem own_keepT {b n : Nat} {v : Value} {xs : List Value} (h : w.ownsRow b 36 4 v n xs) (hk : KeepR w w') : w'.ownsRow b 36 4 v n xs := own_keep h fun g cs hb => hk.blk hb (by decide) (by decide)
theorem own_keepX {b n : Nat} {v : Value} {xs : List Value} (h : w.ownsRow b 50 5 v n xs) (hk : KeepL w w') : w'.ownsRow b 50 5 v n xs := own_keep h fun g cs hb => hk.blk hb (by decide) (by decide)
theorem led_grown_keep (h : Led B w g L nx ak sm) (hg : w.grownBy w' (some g)) : KeepL w w' := by obtain ⟨_, V, h1, _⟩ := h; exact KeepL.grown hg h1

theorem boLost_T (now wait : Int) (h : Bo B w0 w g gx ob oc L nx ak sm LL nx' ak' sm') (hL : L.length ≤ 100000) (hk : ∀ p ∈ L, PkOk p) (hn : 0 ≤ now ∧ now ≤ 18446744073709551615) :
    Calls Try.prog 11 #[.pointer (some ⟨g, 0, none⟩), .int .u64 now, .int .u64 wait] w fun e w' => ∃ v, e = .returned v ∧ w'.ownsRow B 36 4 v (L.filter (lostF sm ak now wait)).length (pkcells (L.filter (lostF sm ak now wait))) ∧
      Bo B w0 w' g gx ob oc (L.filter (fun p => !(lostF sm ak now wait) p)) nx ak sm LL nx' ak' sm' ∧ KeepL w w' := by
  refine (lost_any B g L nx ak sm now wait w h.p hL hk hn).mono ?_
  rintro e w4 ⟨v, rfl, ho, hl, hg⟩
  have hkk := led_grown_keep h.p hg
  exact ⟨v, rfl, own_base ho h.s, h.setT hl hkk (below_of_grown hg h.s (fun b e => by injection e with e; have := h.p.1; omega)), hkk⟩
theorem boLost_X (now wait : Int) (h : Bo B w0 w g gx ob oc L nx ak sm LL nx' ak' sm') (hL : LL.length ≤ 100000) (hk : ∀ q ∈ LL, PkOk q.1) (hak : 0 ≤ ak' ∧ ak' ≤ 18446744073709551615) (hn : 0 ≤ now ∧ now ≤ 18446744073709551615) :
    Calls Try.prog 19 #[.pointer (some ⟨gx, 0, none⟩), .int .u64 now, .int .u64 wait] w fun e w' => ∃ v, e = .returned v ∧ w'.ownsRow B 50 5 v (outR (lostF sm' ak' now wait) LL).length (rcells (outR (lostF sm' ak' now wait) LL)) ∧
      Bo B w0 w' g gx ob oc L nx ak sm (LL.map (mark (lostF sm' ak' now wait))) nx' ak' sm' ∧ KeepR w w' := by
  refine (lostR_any B gx LL nx' ak' sm' now wait w h.r h.s hL hk hak hn).mono ?_
  rintro e w4 ⟨v, rfl, ho, hl, hbb, hkk⟩
  exact ⟨v, rfl, own_base ho h.s, h.setX hl hkk hbb, hkk⟩
theorem clearF (B g : Nat) (L : List Pk) (nx ak : Int) (sm : Bool) (w : World) (hl : Led B w g L nx ak sm) (hL : L.length ≤ 100000) (hk : ∀ p ∈ L, PkOk p) :
    Calls Try.prog 16 #[.pointer (some ⟨g, 0, none⟩)] w fun e w' => ∃ v, e = .returned v ∧ w'.ownsRow w.heap.size 36 4 v (L.filter (fun _ => true)).length (pkcells (L.filter (fun _ => true))) ∧ Led B w' g (L.filter (fun p => !(fun _ : Pk => true) p)) nx ak sm ∧ w.grownBy w' (some g) := by
  have e1 : L.filter (fun _ => true) = L := by simp
  have e2 : L.filter (fun p => !(fun _ : Pk => true) p) = [] := by simp
  rw [e1, e2]
  exact clear_any B g L nx ak sm w hl hL hk
theorem boClear_T (h : Bo B w0 w g gx ob oc L nx ak sm LL nx' ak' sm') (hL : L.length ≤ 100000) (hk : ∀ p ∈ L, PkOk p) :
    Calls Try.prog 16 #[.pointer (some ⟨g, 0, none⟩)] w fun e w' => ∃ v, e = .returned v ∧ w'.ownsRow B 36 4 v (L.filter (fun _ => true)).length (pkcells (L.filter (fun _ => true))) ∧
      Bo B w0 w' g gx ob oc (L.filter (fun p => !(fun _ : Pk => true) p)) nx ak sm LL nx' ak' sm' ∧ KeepL w w' := by
  refine (clearF B g L nx ak sm w h.p hL hk).mono ?_
  rintro e w4 ⟨v, rfl, ho, hl, hg⟩
  have hkk := led_grown_keep h.p hg
  exact ⟨v, rfl, own_base ho h.s, h.setT hl hkk (below_of_grown hg h.s (fun b e => by injection e with e; have := h.p.1; omega)), hkk⟩
theorem boClear_X (h : Bo B w0 w g gx ob oc L nx ak sm LL nx' ak' sm') (hL : LL.length ≤ 100000) :
    Calls Try.prog 20 #[.pointer (some ⟨gx, 0, none⟩)] w fun e w' => ∃ v, e = .returned v ∧ w'.ownsRow B 50 5 v (outR (fun _ => true) LL).length (rcells (outR (fun _ => true) LL)) ∧
      Bo B w0 w' g gx ob oc L nx ak sm (LL.map (mark (fun _ => true))) nx' ak' sm' ∧ KeepR w w' := by
  refine (clearR_any B gx LL nx' ak' sm' w h.r h.s hL).mono ?_
  rintro e w4 ⟨v, rfl, ho, hl, hbb, hkk⟩
  rw [← outR_all] at ho
  exact ⟨v, rfl, own_base ho h.s, h.setX hl hkk hbb, hkk⟩
theorem boSend_T (p : Pk) (h : Bo B w0 w g gx ob oc L nx ak sm LL nx' ak' sm') (hL : L.length ≤ 100000) (hp : PkIn p) :
    Calls Try.prog 13 #[.pointer (some ⟨g, 0, none⟩), .agg #[.int .u64 p.num, .int .u64 p.sent, .int .i64 p.size, .bool p.asks]] w fun e w' => e = .returned (.int .i64 (sendE nx p)) ∧
      Bo B w0 w' g gx ob oc (if sendE nx p = 0 then L ++ [p] else L) (if sendE nx p = 0 then p.num + 1 else nx) ak sm LL nx' ak' sm' ∧ ∀ i cs, Blk w i 50 cs → i ≠ gx → Blk w' i 50 cs := by
  by_cases hs : sendE nx p = 0
  · obtain ⟨h1, h2⟩ := sendE_ok hp hs
    rw [if_pos hs, if_pos hs, hs]
    refine (send_ok B g L nx ak sm p w h.p h.s hL h1 h2).mono ?_
    rintro e w4 ⟨rfl, hl, hb, hk⟩
    exact ⟨rfl, h.setT hl hk hb, fun i cs hi _ => hk.blk hi (by decide) (by decide)⟩
  · rw [if_neg hs, if_neg hs]
    refine (send_no B g L nx ak sm p w h.p hp hs).mono ?_
    rintro e w4 ⟨rfl, hb⟩
    exact ⟨rfl, h.below hb, fun i cs hi _ => hi.same hb⟩
theorem boSend_X (p : Pk) (h : Bo B w0 w g gx ob oc L nx ak sm LL nx' ak' sm') (hL : LL.length ≤ 100000) (hp : PkIn p) :
    Calls Try.prog 21 #[.pointer (some ⟨gx, 0, none⟩), .agg #[.int .u64 p.num, .int .u64 p.sent, .int .i64 p.size, .bool p.asks, .bool false]] w fun e w' => e = .returned (.int .i64 (sendE nx' p)) ∧
      Bo B w0 w' g gx ob oc L nx ak sm (if sendE nx' p = 0 then LL ++ [(p, false)] else LL) (if sendE nx' p = 0 then p.num + 1 else nx') ak' sm' ∧ ∀ i cs, Blk w i 50 cs → i ≠ gx → Blk w' i 50 cs := by
  by_cases hs : sendE nx' p = 0
  · obtain ⟨h1, h2⟩ := sendE_ok hp hs
    rw [if_pos hs, if_pos hs, hs]
    refine (sendR_ok B gx LL nx' ak' sm' p w h.r h.s hL h1 h2).mono ?_
    rintro e w4 ⟨rfl, hl, hb, hk, hg⟩
    exact ⟨rfl, h.setX hl hk hb, fun i cs hi hne => hi.grown hg (by simpa using hne)⟩
  · rw [if_neg hs, if_neg hs]
    refine (sendR_no B gx LL nx' ak' sm' p w h.r hp hs).mono ?_
    rintro e w4 ⟨rfl, hb⟩
    exact ⟨rfl, h.below hb, fun i cs hi _ => hi.same hb⟩
theorem boAck_T (A : Option Addr) (n cap : Nat) (R : List (Int × Int)) (h : Bo B w0 w g gx ob oc L nx ak sm LL nx' ak' sm') (hL : L.length ≤ 100000) (hk : ∀ p ∈ L, PkOk p) (ho : w.ownsRow B 31 2 (.slice A n cap) n (prcells R)) :
    Calls Try.prog 10 #[.pointer (some ⟨g, 0, none⟩), .slice A n cap] w fun e w' => ∃ v L1, e = .returned (.tuple #[v, .int .i64 (ackE nx R)]) ∧ w'.ownsRow B 36 4 v L1.length (pkcells L1) ∧ L1 = (if ackE nx R = 0 then L.filter (inR R) else []) ∧
      Bo B w0 w' g gx ob oc (if ackE nx R = 0 then L.filter (fun p => !(inR R) p) else L) nx (if ackE nx R = 0 then ackI ak R else ak) (if ackE nx R = 0 then sm || decide (0 < n) else sm) LL nx' ak' sm' ∧ KeepL w w' := by
  have hp := prs_own ho
  obtain ⟨A', cap', e, _, hnc, hcm, _⟩ := prs_of_own ho
  simp only [Value.slice.injEq] at e
  obtain ⟨rfl, hn, rfl⟩ := e
  rw [← hn] at hnc
  have hag : 0 < n → ∀ b off, A = some ⟨b, off, none⟩ → b ≠ g := by
    rintro h0 b off rfl
    obtain ⟨_, V, h1, _⟩ := h.p
    have := own_blk_ne ho h1 (by decide)
    obtain ⟨gg, hgg⟩ := own_some ho h0
    rw [hgg] at this
    simp only [Option.some.injEq, Addr.mk.injEq] at hgg
    intro hbg
    apply this
    simp [Value.ownBlock]
    omega
  by_cases hE : ackE nx R = 0
  · obtain ⟨e1, e2⟩ := ackE_ok hE
    rw [if_pos hE, if_pos hE, if_pos hE, if_pos hE, hE]
    refine (ack_okn B g L nx ak sm A n cap R w h.p hL hk hp hnc hcm e1 e2 hag).mono ?_
    rintro e w4 ⟨v, rfl, ho, hl, hg⟩
    have hkk := led_grown_keep h.p hg
    exact ⟨v, _, rfl, own_base ho h.s, rfl, h.setT hl hkk (below_of_grown hg h.s (fun b e => by injection e with e; have := h.p.1; omega)), hkk⟩
  · rw [if_neg hE, if_neg hE, if_neg hE, if_neg hE]
    refine (ack_no B g L nx ak sm A n cap R w h.p hp hnc hcm hE).mono ?_
    rintro e w4 ⟨rfl, hb⟩
    exact ⟨_, [], rfl, World.ownsRow_nil _ _ _ _, rfl, h.below hb, KeepL.below hb⟩
theorem boAck_X (A : Option Addr) (n cap : Nat) (R : List (Int × Int)) (h : Bo B w0 w g gx ob oc L nx ak sm LL nx' ak' sm') (hL : LL.length ≤ 100000) (ho : w.ownsRow B 31 2 (.slice A n cap) n (prcells R)) (hn : n ≤ 1000) (hak : 0 ≤ ak') (hsm : sm' = false → ak' = 0) (hRo : PairsOk R) :
    Calls Try.prog 17 #[.pointer (some ⟨gx, 0, none⟩), .slice A n cap] w fun e w' => ∃ v LL1, e = .returned (.tuple #[v, .int .i64 (ackE nx' R)]) ∧ w'.ownsRow B 50 5 v LL1.length (rcells LL1) ∧ LL1 = (if ackE nx' R = 0 then outR (inR R) LL else []) ∧
      Bo B w0 w' g gx ob oc L nx ak sm (if ackE nx' R = 0 then LL.map (mark (inR R)) else LL) nx' (if ackE nx' R = 0 then ackI ak' R else ak') (if ackE nx' R = 0 then sm' || decide (0 < n) else sm') ∧ KeepR w w' := by
  obtain ⟨A', cap', e, _, hnc, hcm, _⟩ := prs_of_own ho
  simp only [Value.slice.injEq] at e
  obtain ⟨rfl, _, rfl⟩ := e
  refine (ackR_any B gx LL nx' ak' sm' A n cap R w h.r h.s hL ho hcm hn hak hsm hRo).mono ?_
  rintro e w4 (⟨hE, rfl, hb⟩ | ⟨hE, v, rfl, ho4, hl, hbb, hkk⟩)
  · rw [if_neg hE, if_neg hE, if_neg hE, if_neg hE]
    exact ⟨_, [], rfl, World.ownsRow_nil _ _ _ _, rfl, h.below hb, KeepR.below hb⟩
  · rw [if_pos hE, if_pos hE, if_pos hE, if_pos hE, hE]
    exact ⟨v, _, rfl, own_base ho4 h.s, rfl, h.setX hl hkk hbb, hkk⟩
theorem same_own {b b' : Nat} {v v' : Value} {L1 : List Pk} {LL1 : List Rp} (h : w.ownsRow b 36 4 v L1.length (pkcells L1)) (h' : w.ownsRow b' 50 5 v' LL1.length (rcells LL1)) (he : LL1.map (·.1) = L1) :
    Calls Try.prog 18 #[v, v'] w fun e w' => e = .returned (.bool true) ∧ Below w.heap.size w w' := by
  obtain ⟨A, cap, rfl, _, h1, h2, hp⟩ := pks_of_own h
  obtain ⟨A', cap', rfl, _, h1', h2', hp'⟩ := rps_of_own h'
  have hl : LL1.length = L1.length := by rw [← he]; simp
  rw [hl] at hp' h1' ⊢
  exact sameL A A' L1.length cap cap' L1 LL1 w hp hp' he h1 h2 h1' h2'
end

end Go.Proofs.Ytohjifbkjfnkfaa
