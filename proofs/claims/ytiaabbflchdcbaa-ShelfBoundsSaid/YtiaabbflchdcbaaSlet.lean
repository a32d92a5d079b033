/-
  let: a group goes. No condition.
-/
import Derived.Test.YtiaabbflchdcbaaSmem
namespace Go.Proofs.Ytiaabbflchdcbaa
open Go.RowKit
set_option linter.unusedVariables false
set_option linter.unusedSimpArgs false

theorem rows_at {w : World} {g : Nat} {t : TypeId} {cs : Array Value} (h : Blk w g t cs) : w.rangeAt g 0 cs.toList := fun j v hv => by
  rw [Nat.zero_add, h.cell j, ← hv, Array.getElem?_toList]
theorem toA (cs : Array Value) : cs.toList.toArray = cs := by simp
theorem lot_ne (a b : Lot) : (decide (b.1 = a.1) && decide (b.2 = a.2)) = decide (b = a) := by
  rw [Bool.eq_iff_iff]; simp [Prod.ext_iff]
theorem ekv_mid {E : List (En × Value)} {A B : List (Value × Value)} {v : Value × Value} (h : E.map ekv = A ++ v :: B) : ∃ A' y B', E = A' ++ y :: B' ∧ A = A'.map ekv ∧ v = ekv y ∧ B = B'.map ekv := by
  obtain ⟨l1, l2, h1, h2, h3⟩ := List.map_eq_append_iff.1 h
  obtain ⟨y, l3, h4, h5, h6⟩ := List.map_eq_cons_iff.1 h3
  exact ⟨l1, y, l3, by rw [h1, h4], h2.symm, h5.symm, h6.symm⟩
theorem ekey_inj {x y : En × Value} (hx : x.1.Ok) (hy : y.1.Ok) (h : (ekv x).1 = (ekv y).1) : x.1.t = y.1.t ∧ x.1.g = y.1.g ∧ x.1.n = y.1.n := key_inj hx.t hy.t (by injection h)
theorem blk_iter {w w' : World} {g r : Nat} {t : TypeId} {cs : Array Value} {o : Option Nat} {s : Nat} {seen : Array Nat} {c : Nat} (h : Blk w g t cs) (hr : w.heap[r]? = some (.mapIter o s seen c)) : g ≠ r := by
  rintro rfl
  unfold Blk at h
  rw [h] at hr
  cases hr
theorem SX.iter {w w' : World} {B sb lb zb tb r : Nat} {lv : Value} {room used : Int} {E : List (En × Value)} {Z : List (Lot × Int)} {T : List (List Int × Int × Int)} {o : Option Nat} {s : Nat} {seen : Array Nat} {c : Nat}
    (h : SX w B sb lb zb tb lv room used E Z T) (hr : w.heap[r]? = some (.mapIter o s seen c)) (hg : w.grownBy w' (some r)) : SX w' B sb lb zb tb lv room used E Z T := by
  have km : ∀ {k : TypeId} {b : Nat} {L : List (Value × Value)}, KM Try.prog k w b L → KM Try.prog k w' b L := fun hk => hk.kept hg (fun e => by
    obtain ⟨es, clock, hb⟩ := hk.blk
    simp only [Option.some.injEq] at e
    subst e
    rw [hb] at hr
    cases hr)
  refine { h with blk := h.blk.grown hg (by simpa using blk_iter (w' := w) h.blk hr), kl := km h.kl, lr := own_grown h.lr hg (.inr ?_), kz := km h.kz, kt := km h.kt, dat := fun x hx => (h.dat x hx).kept hg (fun b hb e => ?_) }
  · rcases h.lr.2 with ⟨rfl, _⟩ | ⟨g', cap, cur, rfl, _, hh, _⟩
    · simp [Value.ownBlock]
    · intro he
      have : g' = r := by simpa [Value.ownBlock] using he
      exact blk_iter (w' := w) hh hr this
  · simp only [Option.some.injEq] at e
    subst e
    rcases (h.dat x hx).shape with ⟨cap, e, _⟩ | ⟨b', off, cap, cs, e, k1, _⟩
    · rw [e] at hb; simp [Value.ownBlock] at hb
    · rw [e] at hb
      simp only [Value.ownBlock, Option.some.injEq] at hb
      exact blk_iter (w' := w) k1 hr hb
theorem KR.iter {P : Program} {k : TypeId} {w : World} {b r : Nat} {L M : List (Value × Value)} (h : KR P k w b r L M) : ∃ o s seen c, w.heap[r]? = some (.mapIter o s seen c) := by
  obtain ⟨es, clock, since, seen, c0, _, _, _, _, hr, _⟩ := h
  exact ⟨_, _, _, _, hr⟩
theorem KR.apart {P : Program} {k : TypeId} {w : World} {b r : Nat} {L M : List (Value × Value)} (h : KR P k w b r L M) : (M.map (·.1)).Nodup := by
  obtain ⟨es, clock, since, seen, c0, _, hS, _, _, _, _, _, _, rfl⟩ := h
  unfold ents
  rw [List.map_map]
  exact hS.2.2.sublist (List.filter_sublist.map _)
section
variable {w w' : World} {B sb lb zb tb : Nat} {lv : Value} {room used : Int} {E : List (En × Value)} {Z : List (Lot × Int)} {T : List (List Int × Int × Int)}
theorem SX.setU (h : SX w B sb lb zb tb lv room used E Z T) (u : Int) : SX (w.setCell ⟨sb, 1, none⟩ (.int .i64 u)) B sb lb zb tb lv room u E Z T :=
  { h with blk := by simpa using h.blk.set_ 1 (.int .i64 u), kl := h.kl.set_ h.blk 1 _, lr := own_far h.lr (own_blk_ne h.lr h.blk (by decide)) _, kz := h.kz.set_ h.blk 1 _, kt := h.kt.set_ h.blk 1 _, dat := fun x hx => rdt_set (h.dat x hx) h.blk (by decide) 1 _ }
end
section
variable {E' A1 C1 M A' C' : List (En × Value)} {y : En × Value} {x : Lot}
theorem mid_not {A C : List (En × Value)} (hd : ((A.map ekv ++ ekv y :: C.map ekv).map (·.1)).Nodup) : (∀ z ∈ A, (ekv z).1 ≠ (ekv y).1) ∧ ∀ z ∈ C, (ekv z).1 ≠ (ekv y).1 := by
  rw [List.map_append, List.map_cons, List.nodup_append] at hd
  obtain ⟨_, h2, h3⟩ := hd
  refine ⟨fun z hz => ?_, fun z hz e => ?_⟩
  · exact h3 _ (List.mem_map.2 ⟨ekv z, List.mem_map.2 ⟨z, hz, rfl⟩, rfl⟩) _ (by simp)
  · exact (List.nodup_cons.1 h2).1 (by rw [← e]; exact List.mem_map.2 ⟨ekv z, List.mem_map.2 ⟨z, hz, rfl⟩, rfl⟩)
theorem let_in (hE : E' = A1 ++ y :: C1) (hM : M = A' ++ y :: C') (hd : ((A1.map ekv ++ ekv y :: C1.map ekv).map (·.1)).Nodup) (hin : ∀ z ∈ E', z.1.lot = x → z ∈ M) : ∀ z ∈ A1 ++ C1, z.1.lot = x → z ∈ A' ++ C' := fun z hz hx => by
  have h1 := hin z (by rw [hE]; simp only [List.mem_append, List.mem_cons] at hz ⊢; rcases hz with h | h <;> simp [h]) hx
  rw [hM] at h1
  simp only [List.mem_append, List.mem_cons] at h1 hz ⊢
  obtain ⟨m1, m2⟩ := mid_not hd
  rcases h1 with h | rfl | h
  · exact .inl h
  · rcases hz with h | h
    · exact absurd rfl (m1 _ h)
    · exact absurd rfl (m2 _ h)
  · exact .inr h
theorem let_me (hE : E' = A1 ++ y :: C1) (hM : M = A' ++ y :: C') (hd : ((A'.map ekv ++ ekv y :: C'.map ekv).map (·.1)).Nodup) (hME : ∀ z ∈ M, z ∈ E') : ∀ z ∈ A' ++ C', z ∈ A1 ++ C1 := fun z hz => by
  have h1 := hME z (by rw [hM]; simp only [List.mem_append, List.mem_cons] at hz ⊢; rcases hz with h | h <;> simp [h])
  rw [hE] at h1
  simp only [List.mem_append, List.mem_cons] at h1 hz ⊢
  obtain ⟨m1, m2⟩ := mid_not hd
  rcases h1 with h | rfl | h
  · exact .inl h
  · rcases hz with h | h
    · exact absurd rfl (m1 _ h)
    · exact absurd rfl (m2 _ h)
  · exact .inr h
theorem let_fil (hE : E' = A1 ++ y :: C1) (hx : y.1.lot = x) : (A1 ++ C1).filter (fun y => !decide (y.1.lot = x)) = E'.filter (fun y => !decide (y.1.lot = x)) := by
  rw [hE, List.filter_append, List.filter_append, List.filter_cons]
  simp [hx]
theorem let_in2 (hM : M = A' ++ y :: C') (hx : y.1.lot ≠ x) (hin : ∀ z ∈ E', z.1.lot = x → z ∈ M) : ∀ z ∈ E', z.1.lot = x → z ∈ A' ++ C' := fun z hz he => by
  have h1 := hin z hz he
  rw [hM] at h1
  simp only [List.mem_append, List.mem_cons] at h1 ⊢
  rcases h1 with h | rfl | h
  · exact .inl h
  · exact absurd he hx
  · exact .inr h
theorem let_me2 (hM : M = A' ++ y :: C') (hME : ∀ z ∈ M, z ∈ E') : ∀ z ∈ A' ++ C', z ∈ E' := fun z hz => hME z (by
  rw [hM]; simp only [List.mem_append, List.mem_cons] at hz ⊢; rcases hz with h | h <;> simp [h])
theorem let_end (hin : ∀ y ∈ E', y.1.lot = x → y ∈ ([] : List (En × Value))) : E'.filter (fun y => !decide (y.1.lot = x)) = E' :=
  List.filter_eq_self.2 (fun y hy => by
    have := hin y hy
    simp only [List.not_mem_nil, imp_false] at this
    simpa using this)
end
set_option maxHeartbeats 4000000 in
set_option maxRecDepth 100000 in
theorem let_any (B sb lb zb tb i : Nat) (lv : Value) (room used z : Int) (E : List (En × Value)) (Z : List (Lot × Int)) (T : List (List Int × Int × Int)) (x : Lot) (w : World) (hS : SX w B sb lb zb tb lv room used E Z T) (hxi : Z[i]? = some (x, z)) (hBw : B ≤ w.heap.size) (hu : 0 ≤ z ∧ z ≤ used ∧ used ≤ 1048576) :
    Calls Try.prog 32 #[.pointer (some ⟨sb, 0, none⟩), .agg (lotC x.1 x.2)] w fun e w' => e = .returned (.tuple #[]) ∧ ∃ lv', SX w' B sb lb zb tb lv' room (used - z) (E.filter (fun y => !decide (y.1.lot = x))) (Z.eraseIdx i) T ∧ lv'.ownBlock = lv.ownBlock ∧ KB (fun g => g = sb ∨ g = lb ∨ g = zb ∨ lv.ownBlock = some g) w w' := by
  have hxm : (x, z) ∈ Z := List.mem_of_getElem? hxi
  have hlf : ∃ b0 c0, lv = .slice (some ⟨b0, 0, none⟩) (Z.map (·.1)).length c0 ∧ b0 < w.heap.size := by
    rcases lr_form hS.lr with ⟨_, h⟩ | ⟨b0, c0, h1, h2, h3, _⟩
    · rw [List.map_eq_nil_iff] at h; rw [h] at hxm; cases hxm
    · exact ⟨b0, c0, h1, h3⟩
  obtain ⟨b0, c0, rfl, hb0w⟩ := hlf
  have hnd := hS.lots
  have hzo := hS.zok
  have hxo := hS.zok _ hxm
  simp only at hxo
  have hX0 := Blk.new w 84 (lotC x.1 x.2)
  have hb0 : Below w.heap.size w (w.alloc (.cells (lotC x.1 x.2) 84)) := (Below.refl _ _).alloc (Nat.le_refl _) _
  have hS0 := hS.kept hb0
  have hxl := lot_size (g := x.2) hxo.1
  go_enter Try.func32, Try.ntmps32
  go_upto_region 1 with fail
  refine wp_world (fun wz => SX wz B sb lb zb tb (.slice (some ⟨b0, 0, none⟩) (Z.map (·.1)).length c0) room used E Z T ∧ Blk wz w.heap.size 84 (lotC x.1 x.2) ∧ Below w.heap.size w wz) ⟨hS0, hX0, hb0⟩ ?_
  clear hX0 hb0 hS0
  rintro w1 ⟨hS1, hX1, hb1⟩
  have hxb : w.heap.size < w1.heap.size := hX1.lt
  have c2 : World.cell? w1 ⟨sb, 2, none⟩ = some (.map (some lb)) := hS1.blk.cell 2
  obtain ⟨w2, hrun, hKR, hb2, hs2⟩ := hS1.kl.range (t := 76) Try.underlying76
  go_wp2_with (first | (refine wpList_range rfl 76 (.tmp 8) rfl _ rfl _ _ hrun ?_) | fail)
  simp only [Act.put, List.setIfInBounds_toArray, List.set_cons_zero, List.set_cons_succ]
  have hKR2 := hKR
  have hS2 := hS1.kept hb2
  have hX2 := hX1.same hb2
  have hB2 : KB (fun g => g = sb ∨ g = lb ∨ g = zb ∨ g = b0) w w2 := (KB.of hb1).trans (KB.of hb2)
  have hrw : w.heap.size ≠ w1.heap.size := by omega
  clear hKR hrun hS1 hX1 c2 hb1 hb2
  go_loopg [] E.length (fun gk wr => ∃ (E' M : List (En × Value)), gk = M.length ∧ KR Try.prog 71 wr lb w1.heap.size (E'.map ekv) (M.map ekv) ∧ SX wr B sb lb zb tb (.slice (some ⟨b0, 0, none⟩) (Z.map (·.1)).length c0) room used E' Z T ∧ Blk wr w.heap.size 84 (lotC x.1 x.2) ∧ (∀ y ∈ E', y.1.lot = x → y ∈ M) ∧ (∀ y ∈ M, y ∈ E') ∧ E'.filter (fun y => !decide (y.1.lot = x)) = E.filter (fun y => !decide (y.1.lot = x)) ∧ KB (fun g => g = sb ∨ g = lb ∨ g = zb ∨ g = b0) w wr)
  case atStart => exact ⟨E, E, rfl, hKR2, hS2, hX2, fun y hy _ => hy, fun y hy => hy, rfl, hB2⟩
  case round =>
    clear hKR2 hS2 hX2 hB2
    obtain ⟨E', M, hgk, hKR, hS, hX, hin, hME, hfil, hB⟩ := hrel
    rcases hKR.next_e 0 with ⟨hM0, hrun⟩ | ⟨A, v, C, wn, hM, hvL, hrun, hKRn, hgn, hsn, hen⟩
    · have hM0' : M = [] := List.map_eq_nil_iff.1 hM0
      subst hM0'
      have hEf := hfil.symm.trans (let_end hin)
      have HEF := Lib.hid hEf
      have HZ := Lib.hid hxi
      clear hEf hfil hin hME hM0 hKR
      go_upto_region 6 with (first | (refine wpList_next rfl (.tmp 9) rfl _ rfl _ _ hrun ?_) | fail)
      clear hrun
      have hSd : SX wr.drew B sb lb zb tb (.slice (some ⟨b0, 0, none⟩) (Z.map (·.1)).length c0) room used E' Z T := { hS with blk := hS.blk }
      have hXd : Blk wr.drew w.heap.size 84 (lotC x.1 x.2) := hX
      have hlk := fun W (h : KM Try.prog 84 W zb (Z.map zkv)) => h.look_yes law84 (t := 77) Try.underlying77 (key := .agg (lotC x.1 x.2)) (v := .int .i64 z) (List.mem_map.2 ⟨_, hxm, rfl⟩) false
      simp only [Bool.false_eq_true, if_false] at hlk
      have c1 : World.cell? wr.drew ⟨sb, 1, none⟩ = some (.int .i64 used) := hSd.blk.cell 1
      have c4 : World.cell? wr.drew ⟨sb, 4, none⟩ = some (.map (some zb)) := hSd.blk.cell 4
      have f1 := hSd.blk.frozen 1
      have r6 : wr.drew.rangeAt w.heap.size 0 (lotC x.1 x.2).toList := rows_at hXd
      have hwu : wrap64 (used - z) = used - z := by unfold wrap64; omega
      have hwu2 : IntKind.i64.wrap (used - z) = used - z := by rw [IntKind.wrap_i64]; omega
      have hS6 := hSd.setU (used - z)
      have hX6 : Blk (wr.drew.setCell ⟨sb, 1, none⟩ (.int .i64 (used - z))) w.heap.size 84 (lotC x.1 x.2) := Blk.far hXd (p := ⟨sb, 1, none⟩) (hXd.ne_ hSd.blk (by decide)) _
      have hB6 : KB (fun g => g = sb ∨ g = lb ∨ g = zb ∨ g = b0) w (wr.drew.setCell ⟨sb, 1, none⟩ (.int .i64 (used - z))) := KB.set (hB.drewN 1) (p := ⟨sb, 1, none⟩) (.inl rfl) _
      have d1 : World.cell? (wr.drew.setCell ⟨sb, 1, none⟩ (.int .i64 (used - z))) ⟨sb, 1, none⟩ = some (.int .i64 (used - z)) := hS6.blk.cell 1
      have d4 : World.cell? (wr.drew.setCell ⟨sb, 1, none⟩ (.int .i64 (used - z))) ⟨sb, 4, none⟩ = some (.map (some zb)) := hS6.blk.cell 4
      have q6 := rows_at hX6
      refine wp_region_held_drew (S := fun W => World.cell? W ⟨sb, 4, none⟩ = some (.map (some zb)) ∧ W.rangeAt w.heap.size 0 (lotC x.1 x.2).toList ∧ KM Try.prog 84 W zb (Z.map zkv)) (by kernel_rfl) (by first | exact ⟨c4, r6, hSd.kz⟩ | exact ⟨d4, q6, hS6.kz⟩) (fun _ => ?_)
      refine wpAnyH_take (i := 0) (oi := ({ dst := some 31, op := Op.move (Operand.tmp 0), type := 25, pos := _, after := #[], guard := none } : Oper)) (v := ?_) rfl (by kernel_rfl) (by kernel_rfl) (by kernel_rfl) (fun _ _ _ h => h) (Or.inl ⟨by rfl, ?_⟩) (by first | exact ⟨c4, r6, hSd.kz⟩ | exact ⟨d4, q6, hS6.kz⟩) ?_
      rotate_left
      · intro w hSw
        try dsimp only at hSw
        go_simp
        try with_reducible rfl
      try simp only [Act.put, List.setIfInBounds_toArray, List.set_cons_zero, List.set_cons_succ]
      refine wpAnyH_take (i := 1) (oi := ({ dst := some 32, op := Op.nilCheck (Operand.tmp 31), type := 0, pos := _, after := #[{ on := 0, ground := Ground.data }], guard := none } : Oper)) (v := ?_) rfl (by kernel_rfl) (by kernel_rfl) (by kernel_rfl) (fun _ _ _ h => h) (Or.inl ⟨by rfl, ?_⟩) (by first | exact ⟨c4, r6, hSd.kz⟩ | exact ⟨d4, q6, hS6.kz⟩) ?_
      rotate_left
      · intro w hSw
        try dsimp only at hSw
        go_simp
        try with_reducible rfl
      try simp only [Act.put, List.setIfInBounds_toArray, List.set_cons_zero, List.set_cons_succ]
      refine wpAnyH_take (i := 2) (oi := ({ dst := some 33, op := Op.fieldAddr 81 (Operand.tmp 32) 1, type := 0, pos := _, after := #[{ on := 1, ground := Ground.data }], guard := none } : Oper)) (v := ?_) rfl (by kernel_rfl) (by kernel_rfl) (by kernel_rfl) (fun _ _ _ h => h) (Or.inl ⟨by rfl, ?_⟩) (by first | exact ⟨c4, r6, hSd.kz⟩ | exact ⟨d4, q6, hS6.kz⟩) ?_
      rotate_left
      · intro w hSw
        try dsimp only at hSw
        go_simp
        try with_reducible rfl
      try simp only [Act.put, List.setIfInBounds_toArray, List.set_cons_zero, List.set_cons_succ]
      refine wpAnyH_take (i := 4) (oi := ({ dst := some 35, op := Op.move (Operand.tmp 0), type := 25, pos := _, after := #[], guard := none } : Oper)) (v := ?_) rfl (by kernel_rfl) (by kernel_rfl) (by kernel_rfl) (fun _ _ _ h => h) (Or.inl ⟨by rfl, ?_⟩) (by first | exact ⟨c4, r6, hSd.kz⟩ | exact ⟨d4, q6, hS6.kz⟩) ?_
      rotate_left
      · intro w hSw
        try dsimp only at hSw
        go_simp
        try with_reducible rfl
      try simp only [Act.put, List.setIfInBounds_toArray, List.set_cons_zero, List.set_cons_succ]
      refine wpAnyH_take (i := 5) (oi := ({ dst := some 36, op := Op.nilCheck (Operand.tmp 35), type := 0, pos := _, after := #[{ on := 4, ground := Ground.data }], guard := none } : Oper)) (v := ?_) rfl (by kernel_rfl) (by kernel_rfl) (by kernel_rfl) (fun _ _ _ h => h) (Or.inl ⟨by rfl, ?_⟩) (by first | exact ⟨c4, r6, hSd.kz⟩ | exact ⟨d4, q6, hS6.kz⟩) ?_
      rotate_left
      · intro w hSw
        try dsimp only at hSw
        go_simp
        try with_reducible rfl
      try simp only [Act.put, List.setIfInBounds_toArray, List.set_cons_zero, List.set_cons_succ]
      refine wpAnyH_take (i := 6) (oi := ({ dst := some 37, op := Op.fieldAddr 81 (Operand.tmp 36) 4, type := 0, pos := _, after := #[{ on := 5, ground := Ground.data }], guard := none } : Oper)) (v := ?_) rfl (by kernel_rfl) (by kernel_rfl) (by kernel_rfl) (fun _ _ _ h => h) (Or.inl ⟨by rfl, ?_⟩) (by first | exact ⟨c4, r6, hSd.kz⟩ | exact ⟨d4, q6, hS6.kz⟩) ?_
      rotate_left
      · intro w hSw
        try dsimp only at hSw
        go_simp
        try with_reducible rfl
      try simp only [Act.put, List.setIfInBounds_toArray, List.set_cons_zero, List.set_cons_succ]
      refine wpAnyH_take (i := 7) (oi := ({ dst := some 38, op := Op.load 77 (Operand.tmp 37), type := 77, pos := _, after := #[{ on := 6, ground := Ground.data }], guard := none } : Oper)) (v := ?_) rfl (by kernel_rfl) (by kernel_rfl) (by kernel_rfl) (fun _ _ _ h => h) (Or.inl ⟨by rfl, ?_⟩) (by first | exact ⟨c4, r6, hSd.kz⟩ | exact ⟨d4, q6, hS6.kz⟩) ?_
      rotate_left
      · intro w hSw
        try dsimp only at hSw
        go_simp
        try with_reducible rfl
      try simp only [Act.put, List.setIfInBounds_toArray, List.set_cons_zero, List.set_cons_succ]
      refine wpAnyH_take (i := 8) (oi := ({ dst := some 39, op := Op.load 84 (Operand.tmp 3), type := 84, pos := _, after := #[], guard := none } : Oper)) (v := (.agg (lotC x.1 x.2).toList.toArray)) rfl (by kernel_rfl) (by kernel_rfl) (by kernel_rfl) (fun _ _ _ h => h) (yieldsIf_load_mid (by rfl) 84 (.tmp 3) rfl w.heap.size 0 rfl (lotC x.1 x.2).toList _ (fun _ h => h.2.1) Try.underlying84 rfl (by rw [info84, Array.length_toList, hxl])) (by first | exact ⟨c4, r6, hSd.kz⟩ | exact ⟨d4, q6, hS6.kz⟩) ?_
      try simp only [Act.put, List.setIfInBounds_toArray, List.set_cons_zero, List.set_cons_succ]
      refine wpAnyH_take (i := 9) (oi := ({ dst := some 40, op := Op.lookup 77 (Operand.tmp 38) (Operand.tmp 39) false, type := 3, pos := _, after := #[{ on := 7, ground := Ground.data }, { on := 8, ground := Ground.data }], guard := none } : Oper)) (v := (.int .i64 z)) rfl (by kernel_rfl) (by kernel_rfl) (by kernel_rfl) (fun _ _ _ h => h) (yieldsIf_look (by rfl) 77 (.tmp 38) (.tmp 39) false rfl (.map (some zb)) (.agg (lotC x.1 x.2)) rfl rfl _ (fun W h => hlk W h.2.2)) (by first | exact ⟨c4, r6, hSd.kz⟩ | exact ⟨d4, q6, hS6.kz⟩) ?_
      try simp only [Act.put, List.setIfInBounds_toArray, List.set_cons_zero, List.set_cons_succ]
      refine wpAnyH_ready (rs := [3]) (by kernel_rfl) (by simp) ?_
      refine AllReadyH.cons (o := ({ dst := some 34, op := Op.load 3 (Operand.tmp 33), type := 3, pos := _, after := #[{ on := 2, ground := Ground.data }], guard := none } : Oper)) rfl (fun K hK => ?_) AllReadyH.nil
      go_simp
      refine hK.out _ _ (by first | exact ⟨c4, r6, hSd.kz⟩ | exact ⟨d4, q6, hS6.kz⟩) (fun _ => ?_)
      clear hK K
      try simp only [Act.put, List.setIfInBounds_toArray, List.set_cons_zero, List.set_cons_succ]
      refine wpAnyH_take (i := 10) (oi := ({ dst := some 41, op := Op.binOp BinOp.sub 3 (Operand.tmp 34) (Operand.tmp 40) 3, type := 3, pos := _, after := #[{ on := 3, ground := Ground.data }, { on := 9, ground := Ground.data }], guard := none } : Oper)) (v := ?_) rfl (by kernel_rfl) (by kernel_rfl) (by kernel_rfl) (fun _ _ _ h => h) (Or.inl ⟨by rfl, ?_⟩) (by first | exact ⟨c4, r6, hSd.kz⟩ | exact ⟨d4, q6, hS6.kz⟩) ?_
      rotate_left
      · intro w hSw
        try dsimp only at hSw
        go_simp
        try with_reducible rfl
      try simp only [Act.put, List.setIfInBounds_toArray, List.set_cons_zero, List.set_cons_succ]
      refine wpAnyH_take (i := 11) (oi := ({ dst := some 42, op := Op.nilCheck (Operand.tmp 31), type := 0, pos := _, after := #[{ on := 0, ground := Ground.data }, { on := 0, ground := Ground.phase }, { on := 1, ground := Ground.phase }, { on := 2, ground := Ground.phase }, { on := 3, ground := Ground.phase }, { on := 4, ground := Ground.phase }, { on := 5, ground := Ground.phase }, { on := 6, ground := Ground.phase }, { on := 7, ground := Ground.phase }, { on := 8, ground := Ground.phase }, { on := 9, ground := Ground.phase }, { on := 10, ground := Ground.phase }], guard := none } : Oper)) (v := ?_) rfl (by kernel_rfl) (by kernel_rfl) (by kernel_rfl) (fun _ _ _ h => h) (Or.inl ⟨by rfl, ?_⟩) (by first | exact ⟨c4, r6, hSd.kz⟩ | exact ⟨d4, q6, hS6.kz⟩) ?_
      rotate_left
      · intro w hSw
        try dsimp only at hSw
        go_simp
        try with_reducible rfl
      try simp only [Act.put, List.setIfInBounds_toArray, List.set_cons_zero, List.set_cons_succ]
      refine wpAnyH_take (i := 12) (oi := ({ dst := some 43, op := Op.fieldAddr 81 (Operand.tmp 42) 1, type := 0, pos := _, after := #[{ on := 11, ground := Ground.data }, { on := 0, ground := Ground.phase }, { on := 1, ground := Ground.phase }, { on := 2, ground := Ground.phase }, { on := 3, ground := Ground.phase }, { on := 4, ground := Ground.phase }, { on := 5, ground := Ground.phase }, { on := 6, ground := Ground.phase }, { on := 7, ground := Ground.phase }, { on := 8, ground := Ground.phase }, { on := 9, ground := Ground.phase }, { on := 10, ground := Ground.phase }], guard := none } : Oper)) (v := ?_) rfl (by kernel_rfl) (by kernel_rfl) (by kernel_rfl) (fun _ _ _ h => h) (Or.inl ⟨by rfl, ?_⟩) (by first | exact ⟨c4, r6, hSd.kz⟩ | exact ⟨d4, q6, hS6.kz⟩) ?_
      rotate_left
      · intro w hSw
        try dsimp only at hSw
        go_simp
        try with_reducible rfl
      try simp only [Act.put, List.setIfInBounds_toArray, List.set_cons_zero, List.set_cons_succ]
      refine wpAnyH_ready (rs := [13]) (by kernel_rfl) (by simp) ?_
      refine AllReadyH.cons (o := ({ dst := none, op := Op.store 3 (Operand.tmp 43) (Operand.tmp 41), type := 0, pos := _, after := #[{ on := 12, ground := Ground.data }, { on := 10, ground := Ground.data }, { on := 0, ground := Ground.phase }, { on := 1, ground := Ground.phase }, { on := 2, ground := Ground.phase }, { on := 3, ground := Ground.phase }, { on := 4, ground := Ground.phase }, { on := 5, ground := Ground.phase }, { on := 6, ground := Ground.phase }, { on := 7, ground := Ground.phase }, { on := 8, ground := Ground.phase }, { on := 9, ground := Ground.phase }, { on := 10, ground := Ground.phase }], guard := none } : Oper)) rfl (fun K hK => ?_) AllReadyH.nil
      go_simp
      refine hK.out _ _ (by first | exact ⟨c4, r6, hSd.kz⟩ | exact ⟨d4, q6, hS6.kz⟩) (fun _ => ?_)
      clear hK K
      try simp only [Act.put, List.setIfInBounds_toArray, List.set_cons_zero, List.set_cons_succ]
      refine wpAnyH_done (by kernel_rfl) ?_ _
      go_upto_region 7 with fail
      refine wp_world (fun wz => SX wz B sb lb zb tb (.slice (some ⟨b0, 0, none⟩) (Z.map (·.1)).length c0) room (used - z) E' Z T ∧ Blk wz w.heap.size 84 (lotC x.1 x.2) ∧ KB (fun g => g = sb ∨ g = lb ∨ g = zb ∨ g = b0) w wz) ⟨hS6, hX6, hB6⟩ ?_
      clear hSd hXd hlk c1 c4 f1 r6 hS6 hX6 hB6 d1 d4 q6 hS hX hB hwu hwu2
      rintro w7 ⟨hS7, hX7, hB7⟩
      have hZe : Z = Z.take i ++ (x, z) :: Z.drop (i + 1) := by
        obtain ⟨hi, he⟩ := List.getElem?_eq_some_iff.1 HZ.out
        rw [← he, List.getElem_cons_drop, List.take_append_drop]
      have hZm : Z.map zkv = (Z.take i).map zkv ++ (.agg (lotC x.1 x.2), .int .i64 z) :: (Z.drop (i + 1)).map zkv := by
        conv => lhs; rw [hZe]
        rw [List.map_append, List.map_cons]; rfl
      have hSd : SX w7.drew B sb lb zb tb (.slice (some ⟨b0, 0, none⟩) (Z.map (·.1)).length c0) room (used - z) E' Z T := { hS7 with blk := hS7.blk }
      have hXd : Blk w7.drew w.heap.size 84 (lotC x.1 x.2) := hX7
      have hKz := hSd.kz
      rw [hZm] at hKz
      obtain ⟨w8, hdrun, hK8, hg8, hs8⟩ := hKz.drop law84 (t := 77) Try.underlying77 0
      rw [← List.map_append, ← List.eraseIdx_eq_take_drop_succ] at hK8
      obtain ⟨b8, l8, r8, t8, e8⟩ := hSd.setZ hg8 hK8
      have hX8 := hXd.grown hg8 (by simpa using blk_km_ne hXd hSd.kz)
      have hB8 : KB (fun g => g = sb ∨ g = lb ∨ g = zb ∨ g = b0) w w8 := KB.grown (hB7.drewN 1) hg8 (fun k hk => by simp only [Option.some.injEq] at hk; exact .inl (.inr (.inr (.inl hk.symm))))
      have c4 : World.cell? w7.drew ⟨sb, 4, none⟩ = some (.map (some zb)) := hSd.blk.cell 4
      have q7 := rows_at hXd
      have c48 : World.cell? w8 ⟨sb, 4, none⟩ = some (.map (some zb)) := b8.cell 4
      have q8 := rows_at hX8
      refine wp_region_held_drew (S := fun W => World.cell? W ⟨sb, 4, none⟩ = some (.map (some zb)) ∧ W.rangeAt w.heap.size 0 (lotC x.1 x.2).toList) (by kernel_rfl) (by first | exact ⟨c4, q7⟩ | exact ⟨c48, q8⟩) (fun _ => ?_)
      refine wpAnyH_take (i := 0) (oi := ({ dst := some 44, op := Op.move (Operand.tmp 0), type := 25, pos := _, after := #[], guard := none } : Oper)) (v := ?_) rfl (by kernel_rfl) (by kernel_rfl) (by kernel_rfl) (fun _ _ _ h => h) (Or.inl ⟨by rfl, ?_⟩) (by first | exact ⟨c4, q7⟩ | exact ⟨c48, q8⟩) ?_
      rotate_left
      · intro w hSw
        try dsimp only at hSw
        go_simp
        try with_reducible rfl
      try simp only [Act.put, List.setIfInBounds_toArray, List.set_cons_zero, List.set_cons_succ]
      refine wpAnyH_take (i := 1) (oi := ({ dst := some 45, op := Op.nilCheck (Operand.tmp 44), type := 0, pos := _, after := #[{ on := 0, ground := Ground.data }], guard := none } : Oper)) (v := ?_) rfl (by kernel_rfl) (by kernel_rfl) (by kernel_rfl) (fun _ _ _ h => h) (Or.inl ⟨by rfl, ?_⟩) (by first | exact ⟨c4, q7⟩ | exact ⟨c48, q8⟩) ?_
      rotate_left
      · intro w hSw
        try dsimp only at hSw
        go_simp
        try with_reducible rfl
      try simp only [Act.put, List.setIfInBounds_toArray, List.set_cons_zero, List.set_cons_succ]
      refine wpAnyH_take (i := 2) (oi := ({ dst := some 46, op := Op.fieldAddr 81 (Operand.tmp 45) 4, type := 0, pos := _, after := #[{ on := 1, ground := Ground.data }], guard := none } : Oper)) (v := ?_) rfl (by kernel_rfl) (by kernel_rfl) (by kernel_rfl) (fun _ _ _ h => h) (Or.inl ⟨by rfl, ?_⟩) (by first | exact ⟨c4, q7⟩ | exact ⟨c48, q8⟩) ?_
      rotate_left
      · intro w hSw
        try dsimp only at hSw
        go_simp
        try with_reducible rfl
      try simp only [Act.put, List.setIfInBounds_toArray, List.set_cons_zero, List.set_cons_succ]
      refine wpAnyH_take (i := 3) (oi := ({ dst := some 47, op := Op.load 77 (Operand.tmp 46), type := 77, pos := _, after := #[{ on := 2, ground := Ground.data }], guard := none } : Oper)) (v := ?_) rfl (by kernel_rfl) (by kernel_rfl) (by kernel_rfl) (fun _ _ _ h => h) (Or.inl ⟨by rfl, ?_⟩) (by first | exact ⟨c4, q7⟩ | exact ⟨c48, q8⟩) ?_
      rotate_left
      · intro w hSw
        try dsimp only at hSw
        go_simp
        try with_reducible rfl
      try simp only [Act.put, List.setIfInBounds_toArray, List.set_cons_zero, List.set_cons_succ]
      refine wpAnyH_take (i := 4) (oi := ({ dst := some 48, op := Op.load 84 (Operand.tmp 3), type := 84, pos := _, after := #[], guard := none } : Oper)) (v := (.agg (lotC x.1 x.2).toList.toArray)) rfl (by kernel_rfl) (by kernel_rfl) (by kernel_rfl) (fun _ _ _ h => h) (yieldsIf_load_mid (by rfl) 84 (.tmp 3) rfl w.heap.size 0 rfl (lotC x.1 x.2).toList _ (fun _ h => h.2) Try.underlying84 rfl (by rw [info84, Array.length_toList, hxl])) (by first | exact ⟨c4, q7⟩ | exact ⟨c48, q8⟩) ?_
      try simp only [Act.put, List.setIfInBounds_toArray, List.set_cons_zero, List.set_cons_succ]
      refine wpAnyH_ready (rs := [5]) (by kernel_rfl) (by simp) ?_
      refine AllReadyH.cons (o := ({ dst := none, op := Op.call { callee := Callee.builtin Builtin.delete, args := #[Operand.tmp 47, Operand.tmp 48], argTypes := #[77, 84] }, type := 0, pos := _, after := #[{ on := 3, ground := Ground.data }, { on := 4, ground := Ground.data }], guard := none } : Oper)) rfl (fun K hK => ?_) AllReadyH.nil
      refine step_mdel rfl 77 84 (.tmp 47) (.tmp 48) rfl (.map (some zb)) (.agg (lotC x.1 x.2)) rfl rfl _ _ hdrun ?_
      refine hK.out _ _ (by first | exact ⟨c4, q7⟩ | exact ⟨c48, q8⟩) (fun _ => ?_)
      clear hK K
      try simp only [Act.put, List.setIfInBounds_toArray, List.set_cons_zero, List.set_cons_succ]
      refine wpAnyH_done (by kernel_rfl) ?_ _
      have hxi1 : (Z.map (·.1))[i]? = some x := by rw [List.getElem?_map, HZ.out]; rfl
      have hdf := del_func b0 c0 B w.heap.size i (Z.map (·.1)) w8 r8 (fun y hy => by obtain ⟨u, hu, rfl⟩ := List.mem_map.1 hy; exact hzo u hu) hnd x hxi1 hX8 (by omega)
      obtain ⟨n0, hn0⟩ : ∃ n0, n0 = (Z.map (·.1)).length := ⟨_, rfl⟩
      rw [← hn0] at hdf b8 r8
      have HN0 := Lib.hid hn0
      have c38 : World.cell? w8 ⟨sb, 3, none⟩ = some (.slice (some ⟨b0, 0, none⟩) n0 c0) := b8.cell 3
      obtain ⟨cur8, hb08, -⟩ := lr_blk r8
      have hsb : sb ≠ b0 := b8.ne_ hb08 (by decide)
      have hB80 : w8.heap.size = w8.heap.size := rfl
      have hb0B : B ≤ b0 := by obtain ⟨_, _, _, _, _, _, h, _⟩ := lr_blk r8; exact h
      have hlb := own_km_ne r8 l8
      have hzb := own_km_ne r8 hK8
      have htb := own_km_ne r8 t8
      simp only [Value.ownBlock, ne_eq, Option.some.injEq] at hlb hzb htb
      clear c4 q7 c48 q8 hKz hdrun hSd hXd hS7 hX7 hB7 hZm hn0 hg8 hs8
      go_wp2_with (first | (go_at_call 42; refine hdf.mono ?_; clear hdf; rintro e w9 ⟨rfl, hR9, hg9⟩; have b9 := b8.grown hg9 (by simpa using hsb); have c39 : World.cell? w9 ⟨sb, 3, none⟩ = some (.slice (some ⟨b0, 0, none⟩) n0 c0) := b9.cell 3; have f39 := b9.frozen 3; have hB9 := hB8.grown hg9 (fun k hk => by simp only [Option.some.injEq] at hk; exact .inl (.inr (.inr (.inr hk.symm))))) | fail)
      (first | go_end0 | ((try simp only [Exit.inBlock, Exit.then]); refine bodyPost_ret (results_none rfl _ _ _) rfl ?_))
      refine ⟨rfl, .slice (some ⟨b0, 0, none⟩) (n0 - 1) c0, ?_, rfl, (hB9.set (p := ⟨sb, 3, none⟩) (.inl rfl) _).mono (fun g hg => by rcases hg with h | h | h | h <;> simp [h, Value.ownBlock])⟩
      rw [HEF.out]
      have l9 := l8.kept hg9 (by simpa using Ne.symm hlb)
      have z9 := hK8.kept hg9 (by simpa using Ne.symm hzb)
      have t9 := t8.kept hg9 (by simpa using Ne.symm htb)
      have hcut : (Z.map (·.1)).take i ++ (Z.map (·.1)).drop (i + 1) = (Z.eraseIdx i).map (·.1) := by rw [List.eraseIdx_eq_take_drop_succ, List.map_append, List.map_take, List.map_drop]
      have hR9' : LR w9 B (.slice (some ⟨b0, 0, none⟩) (n0 - 1) c0) ((Z.eraseIdx i).map (·.1)) := by rw [← hcut]; exact hR9
      exact ⟨by simpa using b9.set_ 3 _, l9.set_ b9 3 _, own_far hR9' (own_blk_ne hR9' b9 (by decide)) _, z9.set_ b9 3 _, t9.set_ b9 3 _, fun y hy => rdt_set (rdt_grown (e8 y hy) hb08 (by decide) hg9) b9 (by decide) 3 _, fun y hy => hS.ok y (by rw [← HEF.out] at hy; exact (List.mem_filter.1 hy).1), fun y hy => hzo y (List.mem_of_mem_eraseIdx hy), hS.hs, hS.hl, hS.hz, hS.ht, hS.lz, hS.lt, hS.zt⟩
    · obtain ⟨A', y, C', hMe, rfl, rfl, rfl⟩ := ekv_mid hM
      have hyM : y ∈ M := by rw [hMe]; simp
      have hyE := hME y hyM
      have hyo := hS.ok y hyE
      have hys := key_size (g := y.1.g) (n := y.1.n) hyo.t
      obtain ⟨oi, si, seen, ci, hit⟩ := hKR.iter
      have hSn := hS.iter hit hgn
      have hXn := hX.grown hgn (by simpa using hrw)
      have hBn : KB (fun g => g = sb ∨ g = lb ∨ g = zb ∨ g = b0) w wn := hB.grown hgn (fun k hk => by simp only [Option.some.injEq] at hk; exact .inr (by omega))
      have hen' : (Instr.entry (.pointer (some ⟨w1.heap.size, 0, none⟩))).run Try.prog wn = .ok (.tuple #[.agg (keyC y.1.t y.1.g y.1.n), .agg #[.int .u64 y.1.g, .int .u64 y.1.n, .int .u8 y.1.p, .bool false, y.2]]) wn := hen
      have hba : Below wn.heap.size wn (wn.alloc (.cells (keyC y.1.t y.1.g y.1.n) 71)) := (Below.refl _ _).alloc (Nat.le_refl _) _
      have hV := Blk.new wn 71 (keyC y.1.t y.1.g y.1.n)
      clear hsn
      go_upto_region 3 with (first | (refine wpList_next rfl (.tmp 9) rfl _ rfl _ _ hrun ?_) | fail)
      go_upto_region 4 with (first | (refine wpList_entry rfl (.tmp 9) rfl _ rfl _ _ hen' ?_) | (refine wpList_store_new rfl 71 (.tmp 4) (.tmp 13) rfl 71 _ (keyC y.1.t y.1.g y.1.n) rfl rfl (by rw [info71, hys]) (by rw [hys]; rfl) (key_one _ _ _) ?_) | fail)
      refine wp_world (fun wz => KR Try.prog 71 wz lb w1.heap.size (E'.map ekv) (A'.map ekv ++ C'.map ekv) ∧ SX wz B sb lb zb tb (.slice (some ⟨b0, 0, none⟩) (Z.map (·.1)).length c0) room used E' Z T ∧ Blk wz w.heap.size 84 (lotC x.1 x.2) ∧ Blk wz wn.heap.size 71 (keyC y.1.t y.1.g y.1.n) ∧ KB (fun g => g = sb ∨ g = lb ∨ g = zb ∨ g = b0) w wz) ⟨hKRn.below hba, hSn.kept hba, hXn.same hba, hV, hBn.trans (KB.of hba)⟩ ?_
      have hMA := hKR.apart
      clear hSn hXn hBn hba hV hKRn hrun hen hen' hit hgn hvL hKR hS hX hB
      obtain ⟨kb, hkb⟩ : ∃ kb, kb = wn.heap.size := ⟨_, rfl⟩
      rw [← hkb]
      clear hkb
      rintro wz ⟨hKz, hSz, hXz, hVz, hBz⟩
      have hxr := lot_range hXz
      have hx32 := hxo.1.1
      have kg := key_g hVz hyo.t
      have lg := lot_g hXz hxo.1
      have hhas := has_any x.1 y.1.t y.1.g y.1.n wz hxo.1 hyo.t
      have HM := Lib.hid hM
      have HME := Lib.hid hMe
      clear hM hMe
      by_cases h1 : y.1.t = x.1
      · have d1 : decide (y.1.t = x.1) = true := decide_eq_true h1
        rw [d1] at hhas
        by_cases h2 : y.1.g = x.2
        · have d2 : (y.1.g == x.2) = true := by simpa using h2
          have HL : Hid (y.1.lot = x) := Lib.hid (Prod.ext h1 h2)
          clear h1 h2 d1
          go_upto_region 5 with (first | (refine wpList_load_mid rfl 82 (.tmp 14) rfl w.heap.size 0 rfl (x.1.map (Value.int .u8)) _ hxr Try.underlying82 rfl (by rw [info82, List.length_map, hx32]) ?_; show wpList _ _ _ _ (Act.put _ _ (.agg (trkC x.1))) _) | (refine wpList_load_row rfl 71 (.tmp 4) rfl kb rfl 71 (keyC y.1.t y.1.g y.1.n) (0, 0) _ hVz Try.underlying71 rfl (by rw [info71, hys]) ?_) | (go_at_call 37; refine hhas.mono ?_; rintro e w5 ⟨rfl, hb5⟩; have hK5 := hKz.below hb5; have hS5 := hSz.kept hb5; have hX5 := hXz.same hb5; have hV5 := hVz.same hb5; have hB5 := hBz.trans (KB.of hb5); have kg5 := keepB_cell kg w5 hb5; have lg5 := keepB_cell lg w5 hb5) | fail)
          have hV5' : Blk w5.drew kb 71 (keyC y.1.t y.1.g y.1.n) := hV5
          have hS5' : SX w5.drew B sb lb zb tb (.slice (some ⟨b0, 0, none⟩) (Z.map (·.1)).length c0) room used E' Z T := { hS5 with blk := hS5.blk }
          obtain ⟨A1, C1, hE⟩ := List.append_of_mem hyE
          have hEm : E'.map ekv = A1.map ekv ++ ekv y :: C1.map ekv := by rw [hE]; simp
          have hKd : KR Try.prog 71 w5.drew lb w1.heap.size (A1.map ekv ++ (.agg (keyC y.1.t y.1.g y.1.n), (ekv y).2) :: C1.map ekv) (A'.map ekv ++ C'.map ekv) := by rw [hEm] at hK5; exact hK5
          have hdE : ((A1.map ekv ++ ekv y :: C1.map ekv).map (·.1)).Nodup := by rw [← hEm]; exact hS5.kl.apart
          have hMA' := hMA
          rw [HM.out] at hMA'
          obtain ⟨m1, m2⟩ := mid_not hMA'
          obtain ⟨w6, hdrun, hK6, hg6, hs6⟩ := hKd.drop law71 (t := 76) Try.underlying76 (fun z hz => by
            rcases List.mem_append.1 hz with hz | hz
            · obtain ⟨u, hu, rfl⟩ := List.mem_map.1 hz; exact m1 u hu
            · obtain ⟨u, hu, rfl⟩ := List.mem_map.1 hz; exact m2 u hu) 0
          have c5 : World.cell? w5.drew ⟨sb, 2, none⟩ = some (.map (some lb)) := hS5.blk.cell 2
          have r5 : w5.drew.rangeAt kb 0 (keyC y.1.t y.1.g y.1.n).toList := rows_at hV5'
          have hS6 : SX w6 B sb lb zb tb (.slice (some ⟨b0, 0, none⟩) (Z.map (·.1)).length c0) room used (A1 ++ C1) Z T := by
            obtain ⟨es, clock, hbl⟩ := hS5'.kl.blk
            exact hS5'.setL hg6 (by rw [List.map_append]; exact hK6.km) (fun z hz => rdt_map (hS5'.dat z (by rw [hE]; simp only [List.mem_append, List.mem_cons] at hz ⊢; rcases hz with h | h <;> simp [h])) hbl hg6) (fun z hz => hS5'.ok z (by rw [hE]; simp only [List.mem_append, List.mem_cons] at hz ⊢; rcases hz with h | h <;> simp [h]))
          have hV6 := hV5'.grown hg6 (by simpa using blk_km_ne hV5' hS5'.kl)
          have hX6 : Blk w6 w.heap.size 84 (lotC x.1 x.2) := Blk.grown (show Blk w5.drew w.heap.size 84 (lotC x.1 x.2) from hX5) hg6 (by simpa using blk_km_ne (show Blk w5.drew w.heap.size 84 (lotC x.1 x.2) from hX5) hS5'.kl)
          have c6 : World.cell? w6 ⟨sb, 2, none⟩ = some (.map (some lb)) := hS6.blk.cell 2
          have r6 : w6.rangeAt kb 0 (keyC y.1.t y.1.g y.1.n).toList := rows_at hV6
          have hB6 : KB (fun g => g = sb ∨ g = lb ∨ g = zb ∨ g = b0) w w6 := KB.grown (hB5.drewN 1) hg6 (fun k hk => by simp only [Option.some.injEq] at hk; exact .inl (.inr (.inl hk.symm)))
          clear hKd hS5' hV5' hK5 hS5 hV5 hX5 hB5 kg5 lg5 hg6 hs6 m1 m2 hMA' hKz hSz hXz hVz hBz kg lg hxr
          refine wp_region_held_drew (S := fun W => World.cell? W ⟨sb, 2, none⟩ = some (.map (some lb)) ∧ W.rangeAt kb 0 (keyC y.1.t y.1.g y.1.n).toList) (by kernel_rfl) (by first | exact ⟨c5, r5⟩ | exact ⟨c6, r6⟩) (fun _ => ?_)
          refine wpAnyH_take (i := 0) (oi := ({ dst := some 26, op := Op.move (Operand.tmp 0), type := 25, pos := _, after := #[], guard := none } : Oper)) (v := ?_) rfl (by kernel_rfl) (by kernel_rfl) (by kernel_rfl) (fun _ _ _ h => h) (Or.inl ⟨by rfl, ?_⟩) (by first | exact ⟨c5, r5⟩ | exact ⟨c6, r6⟩) ?_
          rotate_left
          · intro w hSw
            try dsimp only at hSw
            go_simp
            try with_reducible rfl
          try simp only [Act.put, List.setIfInBounds_toArray, List.set_cons_zero, List.set_cons_succ]
          refine wpAnyH_take (i := 1) (oi := ({ dst := some 27, op := Op.nilCheck (Operand.tmp 26), type := 0, pos := _, after := #[{ on := 0, ground := Ground.data }], guard := none } : Oper)) (v := ?_) rfl (by kernel_rfl) (by kernel_rfl) (by kernel_rfl) (fun _ _ _ h => h) (Or.inl ⟨by rfl, ?_⟩) (by first | exact ⟨c5, r5⟩ | exact ⟨c6, r6⟩) ?_
          rotate_left
          · intro w hSw
            try dsimp only at hSw
            go_simp
            try with_reducible rfl
          try simp only [Act.put, List.setIfInBounds_toArray, List.set_cons_zero, List.set_cons_succ]
          refine wpAnyH_take (i := 2) (oi := ({ dst := some 28, op := Op.fieldAddr 81 (Operand.tmp 27) 2, type := 0, pos := _, after := #[{ on := 1, ground := Ground.data }], guard := none } : Oper)) (v := ?_) rfl (by kernel_rfl) (by kernel_rfl) (by kernel_rfl) (fun _ _ _ h => h) (Or.inl ⟨by rfl, ?_⟩) (by first | exact ⟨c5, r5⟩ | exact ⟨c6, r6⟩) ?_
          rotate_left
          · intro w hSw
            try dsimp only at hSw
            go_simp
            try with_reducible rfl
          try simp only [Act.put, List.setIfInBounds_toArray, List.set_cons_zero, List.set_cons_succ]
          refine wpAnyH_take (i := 3) (oi := ({ dst := some 29, op := Op.load 76 (Operand.tmp 28), type := 76, pos := _, after := #[{ on := 2, ground := Ground.data }], guard := none } : Oper)) (v := ?_) rfl (by kernel_rfl) (by kernel_rfl) (by kernel_rfl) (fun _ _ _ h => h) (Or.inl ⟨by rfl, ?_⟩) (by first | exact ⟨c5, r5⟩ | exact ⟨c6, r6⟩) ?_
          rotate_left
          · intro w hSw
            try dsimp only at hSw
            go_simp
            try with_reducible rfl
          try simp only [Act.put, List.setIfInBounds_toArray, List.set_cons_zero, List.set_cons_succ]
          refine wpAnyH_take (i := 4) (oi := ({ dst := some 30, op := Op.load 71 (Operand.tmp 4), type := 71, pos := _, after := #[], guard := none } : Oper)) (v := (.agg (keyC y.1.t y.1.g y.1.n).toList.toArray)) rfl (by kernel_rfl) (by kernel_rfl) (by kernel_rfl) (fun _ _ _ h => h) (yieldsIf_load_mid (by rfl) 71 (.tmp 4) rfl kb 0 rfl (keyC y.1.t y.1.g y.1.n).toList _ (fun _ h => h.2) Try.underlying71 rfl (by rw [info71, Array.length_toList, hys])) (by first | exact ⟨c5, r5⟩ | exact ⟨c6, r6⟩) ?_
          try simp only [Act.put, List.setIfInBounds_toArray, List.set_cons_zero, List.set_cons_succ]
          refine wpAnyH_ready (rs := [5]) (by kernel_rfl) (by simp) ?_
          refine AllReadyH.cons (o := ({ dst := none, op := Op.call { callee := Callee.builtin Builtin.delete, args := #[Operand.tmp 29, Operand.tmp 30], argTypes := #[76, 71] }, type := 0, pos := _, after := #[{ on := 3, ground := Ground.data }, { on := 4, ground := Ground.data }], guard := none } : Oper)) rfl (fun K hK => ?_) AllReadyH.nil
          refine step_mdel rfl 76 71 (.tmp 29) (.tmp 30) rfl (.map (some lb)) (.agg (keyC y.1.t y.1.g y.1.n)) rfl rfl _ _ hdrun ?_
          refine hK.out _ _ (by first | exact ⟨c5, r5⟩ | exact ⟨c6, r6⟩) (fun _ => ?_)
          clear hK K
          try simp only [Act.put, List.setIfInBounds_toArray, List.set_cons_zero, List.set_cons_succ]
          refine wpAnyH_done (by kernel_rfl) ?_ _
          go_wp2_with fail
          go_roundg ((A' ++ C').length)
          case measure => rw [hgk, HME.out]; simp only [List.length_append, List.length_cons]; omega
          case rel => exact ⟨A1 ++ C1, A' ++ C', rfl, by rw [List.map_append, List.map_append]; exact hK6, hS6, hX6, let_in hE HME.out hdE hin, let_me hE HME.out (by rw [← HM.out]; exact hMA) hME, (let_fil hE HL.out).trans hfil, hB6⟩
        · have d2 : (y.1.g == x.2) = false := by simpa using h2
          have HL : Hid (y.1.lot ≠ x) := Lib.hid (fun e => h2 (by rw [← e]))
          clear h1 h2 d1
          go_wp2_with (first | (refine wpList_load_mid rfl 82 (.tmp 14) rfl w.heap.size 0 rfl (x.1.map (Value.int .u8)) _ hxr Try.underlying82 rfl (by rw [info82, List.length_map, hx32]) ?_; show wpList _ _ _ _ (Act.put _ _ (.agg (trkC x.1))) _) | (refine wpList_load_row rfl 71 (.tmp 4) rfl kb rfl 71 (keyC y.1.t y.1.g y.1.n) (0, 0) _ hVz Try.underlying71 rfl (by rw [info71, hys]) ?_) | (go_at_call 37; refine hhas.mono ?_; rintro e w5 ⟨rfl, hb5⟩; have hK5 := hKz.below hb5; have hS5 := hSz.kept hb5; have hX5 := hXz.same hb5; have hV5 := hVz.same hb5; have hB5 := hBz.trans (KB.of hb5); have kg5 := keepB_cell kg w5 hb5; have lg5 := keepB_cell lg w5 hb5) | fail)
          go_roundg ((A' ++ C').length)
          case measure => rw [hgk, HME.out]; simp only [List.length_append, List.length_cons]; omega
          case rel => exact ⟨E', A' ++ C', rfl, by rw [List.map_append]; exact hK5, hS5, hX5, let_in2 HME.out HL.out hin, let_me2 HME.out hME, hfil, hB5⟩
      · have d1 : decide (y.1.t = x.1) = false := decide_eq_false h1
        rw [d1] at hhas
        have HL : Hid (y.1.lot ≠ x) := Lib.hid (fun e => h1 (by rw [← e]))
        clear h1 d1
        go_wp2_with (first | (refine wpList_load_mid rfl 82 (.tmp 14) rfl w.heap.size 0 rfl (x.1.map (Value.int .u8)) _ hxr Try.underlying82 rfl (by rw [info82, List.length_map, hx32]) ?_; show wpList _ _ _ _ (Act.put _ _ (.agg (trkC x.1))) _) | (refine wpList_load_row rfl 71 (.tmp 4) rfl kb rfl 71 (keyC y.1.t y.1.g y.1.n) (0, 0) _ hVz Try.underlying71 rfl (by rw [info71, hys]) ?_) | (go_at_call 37; refine hhas.mono ?_; rintro e w5 ⟨rfl, hb5⟩; have hK5 := hKz.below hb5; have hS5 := hSz.kept hb5; have hX5 := hXz.same hb5; have hV5 := hVz.same hb5; have hB5 := hBz.trans (KB.of hb5); have kg5 := keepB_cell kg w5 hb5; have lg5 := keepB_cell lg w5 hb5) | fail)
        go_roundg ((A' ++ C').length)
        case measure => rw [hgk, HME.out]; simp only [List.length_append, List.length_cons]; omega
        case rel => exact ⟨E', A' ++ C', rfl, by rw [List.map_append]; exact hK5, hS5, hX5, let_in2 HME.out HL.out hin, let_me2 HME.out hME, hfil, hB5⟩

end Go.Proofs.Ytiaabbflchdcbaa
