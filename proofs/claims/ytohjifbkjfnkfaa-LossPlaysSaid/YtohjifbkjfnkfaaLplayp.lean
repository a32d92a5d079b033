/-
  What the script's walk uses. No condition.
-/
import Derived.Test.YtohjifbkjfnkfaaLpair
import Derived.Test.YtohjifbkjfnkfaaRegion
namespace Go.Proofs.Ytohjifbkjfnkfaa
open Go.RowKit
set_option linter.unusedVariables false
set_option linter.unusedSimpArgs false


theorem Pairs.pre' {w : World} {A : Option Addr} {n m : Nat} {L : List (Int × Int)} (h : Pairs w A n L) (hm : m ≤ n) : Pairs w A m (L.take m) :=
  ⟨by simp [h.1, hm], fun k hk => by
    obtain ⟨b, off, e, hlt, h0, h1⟩ := h.2 k (by omega)
    have hl : k < L.length := by rw [h.1]; omega
    have e1 : (L.take m).getD k (0, 0) = L.getD k (0, 0) := by simp [List.getD, hk]
    rw [e1]
    exact ⟨b, off, e, hlt, h0, h1⟩⟩
theorem prs_rdv {w : World} {A : Option Addr} {n : Nat} {R : List (Int × Int)} (h : Pairs w A n R) : RdV w 2 A n (prcells R) :=
  ⟨by rw [prcells_len, h.1], fun k hk => by
    obtain ⟨b, off, e, hlt, h0, h1⟩ := h.2 k hk
    have hl : k < R.length := by rw [h.1]; omega
    refine ⟨b, off, e, hlt, fun j hj => ?_⟩
    show _ = some ((prcells R).getD (k * 2 + j) undef)
    rw [prcells_at R k j hl hj]
    match j, hj with
    | 0, _ => simpa [prc] using h0
    | 1, _ => simpa [prc, Nat.add_assoc] using h1⟩
theorem own_lit31 {B n : Nat} {X w : World} (hn : n = X.heap.size) (h : Below (X.alloc (.cells #[] 31)).heap.size (X.alloc (.cells #[] 31)) w) (hB : B ≤ X.heap.size) : w.ownsRow B 31 2 (.slice (some ⟨n, 0, none⟩) 0 0) 0 [] :=
  hn ▸ own_same (World.ownsRow_lit (size := 2) (e := 31) X #[] 0 hB (by decide) rfl) h
theorem prcells_one' (L : List (Int × Int)) : ∀ u ∈ prcells L, u.oneCell' = true := by
  intro u hu
  obtain ⟨q, _, hq⟩ := List.mem_flatMap.1 hu
  exact pr_cells_one q u hq
theorem PairsOk.pre {R : List (Int × Int)} (h : PairsOk R) (m : Nat) : PairsOk (R.take m) := fun p hp => h p (List.mem_of_mem_take hp)
theorem Pu.acked {k : Nat} {L : List Pk} {nx ak : Int} {sm : Bool} {LL : List Rp} (h : Pu k L nx ak sm LL) (R : List (Int × Int)) (n : Nat) (hn : R.length = n) (hR : PairsOk R) :
    Pu (k + 1) (if ackE nx R = 0 then L.filter (fun p => !(inR R) p) else L) nx (if ackE nx R = 0 then ackI ak R else ak) (if ackE nx R = 0 then sm || decide (0 < n) else sm) (if ackE nx R = 0 then LL.map (mark (inR R)) else LL) := by
  split
  · exact ((h.ack R n hn hR).gone (inR R)).mono
  · exact h.mono
theorem Pu.sent {k : Nat} {L : List Pk} {nx ak : Int} {sm : Bool} {LL : List Rp} (h : Pu k L nx ak sm LL) (p : Pk) (hp : PkIn p) :
    Pu (k + 1) (if sendE nx p = 0 then L ++ [p] else L) (if sendE nx p = 0 then p.num + 1 else nx) ak sm (if sendE nx p = 0 then LL ++ [(p, false)] else LL) := by
  by_cases hs : sendE nx p = 0
  · rw [if_pos hs, if_pos hs, if_pos hs]
    exact h.more p (sendE_ok hp hs).1
  · rw [if_neg hs, if_neg hs, if_neg hs]
    exact h.mono
/-- What is told of those that ask. -/
def askR (L : List Rp) : List Rp := L.filter (fun q => q.1.asks)
theorem askR_take (L : List Rp) (k : Nat) (hk : k < L.length) : askR (L.take (k + 1)) = askR (L.take k) ++ (if (L.getD k rp0).1.asks then [L.getD k rp0] else []) := by
  have e : L.getD k rp0 = L[k] := by simp [List.getD, hk]
  rw [e, List.take_succ_eq_append_getElem hk, askR, List.filter_append]
  by_cases h : L[k].1.asks <;> simp [askR, h]
theorem askR_fst (L : List Rp) : (askR L).map (·.1) = asksP (L.map (·.1)) := by
  induction L with
  | nil => rfl
  | cons q L ih =>
    simp only [askR, asksP, List.map_cons] at ih ⊢
    simp only [List.filter_cons]
    split <;> simp [ih]
theorem RdV.alloc' {w : World} {sz : Nat} {A : Option Addr} {n : Nat} {xs : List Value} (h : RdV w sz A n xs) {ob : Obj} : RdV (w.alloc ob) sz A n xs := ⟨h.1, h.2.below ((Below.refl _ _).alloc (Nat.le_refl _) ob)⟩
theorem KeepL.pre {w w' : World} (h : KeepL w.drew w') : KeepL w w' := ⟨h.os, h.tape, h.output, h.size, h.block⟩
theorem KeepR.pre {w w' : World} (h : KeepR w.drew w') : KeepR w w' := ⟨h.os, h.tape, h.output, h.size, h.block⟩
theorem same_ownD {w : World} {b b' : Nat} {v v' : Value} {L1 : List Pk} {LL1 : List Rp} (h : w.ownsRow b 36 4 v L1.length (pkcells L1)) (h' : w.ownsRow b' 50 5 v' LL1.length (rcells LL1)) (he : LL1.map (·.1) = L1) :
    Calls Try.prog 18 #[v, v'] w.drew fun e w' => e = .returned (.bool true) ∧ Below w.drew.heap.size w.drew w' := same_own (w := w.drew) h h' he
theorem same_nil (w : World) : Calls Try.prog 18 #[.slice none 0 0, .slice none 0 0] w fun e w' => e = .returned (.bool true) ∧ Below w.heap.size w w' :=
  sameL none none 0 0 0 [] [] w ⟨rfl, fun k hk => absurd hk (by omega)⟩ ⟨rfl, fun k hk => absurd hk (by omega)⟩ rfl (Nat.le_refl _) (Nat.zero_le _) (Nat.le_refl _) (Nat.zero_le _)
theorem rnew {B : Nat} {w w' : World} (h : Below (w.alloc (.cells #[.slice none 0 0, .int .u64 0, .int .u64 0, .bool false] 57)).heap.size (w.alloc (.cells #[.slice none 0 0, .int .u64 0, .int .u64 0, .bool false] 57)) w') (hB : B ≤ w.heap.size) : RLed B w' w.heap.size [] 0 0 false :=
  ⟨hB, _, (Blk.new w _ _).same h, World.ownsRow_nil _ _ _ _⟩
theorem same_one {w : World} {q : Rp} {gg : Nat} {A' : Option Addr} {cap' n : Nat} {LL : List Rp} (hb : Blk w gg 36 #[.int .u64 q.1.num, .int .u64 q.1.sent, .int .i64 q.1.size, .bool q.1.asks]) (h' : Rps w A' n (q :: LL)) (hc : n ≤ cap') (hm : cap' ≤ maxLen) :
    Calls Try.prog 18 #[.slice (some ⟨gg, 0, none⟩) 1 1, .slice A' 1 cap'] w fun e w' => e = .returned (.bool true) ∧ Below w.heap.size w w' := by
  have hl := h'.1
  simp only [List.length_cons] at hl
  refine sameL (some ⟨gg, 0, none⟩) A' 1 1 cap' [q.1] [q] w ⟨rfl, fun k hk => ?_⟩ ⟨rfl, fun k hk => ?_⟩ rfl (Nat.le_refl _) (by decide) (by omega) hm
  · obtain rfl : k = 0 := by omega
    exact ⟨gg, 0, rfl, hb.lt, hb.cell 0, hb.cell 1, hb.cell 2, hb.cell 3⟩
  · obtain rfl : k = 0 := by omega
    have := h'.2 0 (by omega)
    simpa using this
theorem RLed.c1 {B : Nat} {w : World} {g : Nat} {L : List Rp} {nx ak : Int} {sm : Bool} (h : RLed B w g L nx ak sm) : w.cell? ⟨g, 1, none⟩ = some (.int .u64 nx) := by obtain ⟨_, V, h1, _⟩ := h; exact h1.cell 1
theorem RLed.c2 {B : Nat} {w : World} {g : Nat} {L : List Rp} {nx ak : Int} {sm : Bool} (h : RLed B w g L nx ak sm) : w.cell? ⟨g, 2, none⟩ = some (.int .u64 ak) := by obtain ⟨_, V, h1, _⟩ := h; exact h1.cell 2
theorem RLed.c3 {B : Nat} {w : World} {g : Nat} {L : List Rp} {nx ak : Int} {sm : Bool} (h : RLed B w g L nx ak sm) : w.cell? ⟨g, 3, none⟩ = some (.bool sm) := by obtain ⟨_, V, h1, _⟩ := h; exact h1.cell 3
theorem last_fst (q : Rp) (AA : List Rp) : ((q :: AA).map (·.1)).getLast?.getD pk0 = ((q :: AA).getD AA.length rp0).1 := by
  have e : ((q :: AA).map (·.1))[AA.length]? = ((q :: AA)[AA.length]?).map (·.1) := by rw [List.getElem?_map]
  rw [List.getLast?_eq_getElem?, show ((q :: AA).map (·.1)).length - 1 = AA.length by simp, e, List.getD, List.getElem?_eq_getElem (by simp)]
  rfl

end Go.Proofs.Ytohjifbkjfnkfaa
