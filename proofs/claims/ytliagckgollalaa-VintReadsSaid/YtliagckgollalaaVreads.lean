/-
  VintReads: all bytes begin with a number, or don't; with a text, or don't; they come back untouched. For every input; no condition.
-/
import Derived.Test.YtliagckgollalaaVforms
import Derived.Test.YtliagckgollalaaVtext
namespace Go.Proofs.Ytliagckgollalaa
open Go.RowKit
set_option linter.unusedVariables false
set_option linter.unusedSimpArgs false


theorem own_cap {w : World} {base : Nat} {e : TypeId} {size g n cap : Nat} {xs : List Value} (h : w.ownsRow base e size (.slice (some ⟨g, 0, none⟩) n cap) n xs) : n ≤ cap ∧ cap ≤ 9223372036854775807 := by
  rcases h.2 with ⟨h, _⟩ | ⟨g', c', cur, h, _, _, h1, h2, _⟩
  · cases h
  · simp only [Value.slice.injEq] at h
    obtain ⟨_, _, rfl⟩ := h
    exact ⟨h1, by unfold maxLen at h2; omega⟩
/-- What Take answers. -/
def takeR (l : List Int) : Int × List Int × Int := match vtake l with | none => (0, [], 2) | some (n, r) => (n, r, 0)
theorem takeR_ok {l : List Int} (hk : BytesOk l) : BytesOk (takeR l).2.1 := by
  unfold takeR
  rcases ht : vtake l with _ | ⟨n, r⟩
  · intro x hx; simp at hx
  · obtain ⟨_, _, x, r', _, _, hr, _⟩ := vtake_some hk ht
    show BytesOk r
    rw [hr]; exact hk.drop _
theorem take_all (v : Value) (l : List Int) (w : World) (h : Rd w .u8 v l) (hk : BytesOk l) (hl : l.length ≤ 1099511627776) :
    Calls Try.prog 17 #[v] w fun e w' => ∃ v', e = .returned (.tuple #[.int .u64 (takeR l).1, v', .int .i64 (takeR l).2.2]) ∧ Rd w' .u8 v' (takeR l).2.1 ∧ Below w.heap.size w w' := by
  unfold takeR
  rcases ht : vtake l with _ | ⟨n, r⟩
  · exact (take_none v l w h hk ht).mono fun e w' ⟨he, hB⟩ => ⟨_, he, Rd.nil _ _, hB⟩
  · exact (take_some v l n r w h hk hl ht).mono fun e w' ⟨v', he, ho, hB⟩ => ⟨v', he, rd_of_own ho, hB⟩
theorem rtake_all (v : Value) (l : List Int) (w : World) (h : Rd w .u8 v l) (hk : BytesOk l) (hl : l.length ≤ 1099511627776) :
    Calls Try.prog 20 #[v] w fun e w' => ∃ v', e = .returned (.tuple #[.int .u64 (takeR l).1, v', .int .i64 (takeR l).2.2]) ∧ Rd w' .u8 v' (takeR l).2.1 ∧ Below w.heap.size w w' := by
  unfold takeR
  rcases ht : vtake l with _ | ⟨n, r⟩
  · exact (rtake_none v l w h hk ht).mono fun e w' ⟨he, hB⟩ => ⟨_, he, Rd.nil _ _, hB⟩
  · exact (rtake_some v l n r w h hk hl ht).mono fun e w' ⟨v', he, ho, hB⟩ => ⟨v', he, rd_of_own ho, hB⟩

set_option maxHeartbeats 4000000 in
set_option maxRecDepth 100000 in
theorem reads_walk (most : Int) (v : Value) (l : List Int) (w : World) (hm : most ≤ 9223372036854775807) (hl : Rd w .u8 v l) (hk : BytesOk l) :
    Calls Try.prog 6 #[v, .int .i64 most] w fun e w' => e = .returned (.bool true) ∧ Below w.heap.size w w' := by
  obtain ⟨i0, hi, hz0, hz1, hz2⟩ := info_parts infoB
  obtain ⟨A0, cap0, rfl⟩ := hl.form
  have HL := Lib.hid hl
  clear hl
  go_enter Try.func6, Try.ntmps6
  go_wp2_with fail
  refine (awake_any _).mono ?_
  rintro e w1 ⟨rfl, hB⟩
  have hl := HL.out.below hB
  go_wp2_with fail
  refine (show Calls Try.prog 9 #[_, .int .i64 300] w1 _ from cut_any _ l 300 w1 hl (by omega)).mono ?_
  rintro e w2 ⟨pv, rfl, ho, hb⟩
  have rp := rd_of_own ho
  have kp := hk.take 300
  obtain ⟨pl, hpl⟩ : ∃ pl, pl = l.take 300 := ⟨_, rfl⟩
  have hpn : pl.length ≤ 300 := by rw [hpl]; simp; omega
  rw [← hpl] at rp kp
  have hB := hB.trans (hb.mono hB.size)
  clear ho hb hl hpl HL hk
  go_wp2_with fail
  refine (copy_any _ pl _ rp (by omega)).mono ?_
  rintro e w3 ⟨v3, rfl, ho3, hb3⟩
  have rp0 := rp
  have rp := rp.below hb3
  have hs3 := hB.size
  have hB := hB.trans (hb3.mono hB.size)
  have hrow : ∀ b, v3.ownBlock = some b → w.heap.size ≤ b := fun b hb => Nat.le_trans hs3 (ho3.lt b hb).1
  have hB3 := hB.alloc hB.size (.cells #[.int .u8 165] 5)
  have rp3 := rp.alloc (.cells #[.int .u8 165] 5)
  obtain ⟨Ap, capp, rfl⟩ := rp.form
  go_wp2_with (at_builtin; refine wpList_append_lies _ rfl _ _ 23 rfl w2.heap.size 5 i0 _ 1 1 Try.underlying23 hi hz0 hz1 hz2 rfl (by decide) v3 pl.length (pl.map (Value.int .u8)) rfl (ho3.alloc _) ⟨w3.heap.size, 0, none⟩ 1 1 [.int .u8 165] rfl rfl (World.news_of_block (cs := #[.int .u8 165]) (t := 5) (fr := (0, 0)) (heap_alloc_new w3 _)) (by simp [Value.oneCell']) (by decide) (by unfold maxLen; omega) (by omega) (by simp; have := hb3.size; omega) (w3.heap.size + 1) (by simp) ?_; intro g cq w4 ho hgrow hat hlt; have hcq := own_cap ho; have c1 : (pl.length : Int) ≤ (cq : Int) := (by omega); have c2 : ((pl.length : Int) + 1) ≤ (cq : Int) := (by omega); have c3 : (pl.length : Int) < (pl.length : Int) + 1 := (by omega))
  have hrow2 : ∀ b, v3.ownBlock = some b → w2.heap.size ≤ b := fun b hb => (ho3.lt b hb).1
  have hb4 : Below w2.heap.size w2 w4 := (hb3.alloc hb3.size (.cells #[.int .u8 165] 5)).grown hgrow (by have := hb3.size; simp; omega) hrow2
  have hB := hB3.grown hgrow (by have := hB.size; simp; omega) hrow
  have rp := rp0.below hb4
  have rq0 : Rd w4 .u8 (.slice (some ⟨g, 0, none⟩) (pl.length + 1) cq) (pl ++ [165]) := rd_of_own (k := .u8) (by rw [List.map_append]; exact ho)
  have rq : Rd w4 .u8 (.slice (some ⟨g, 0, none⟩) pl.length cq) pl := by have h := rq0.pre (m := pl.length) (by simp); rwa [List.take_left'  rfl] at h
  clear rq0 hb4 hb3 rp0 rp3 hB3 hrow hrow2 hgrow ho3 hat hlt hs3
  have nl1 : pl.length ≤ 1099511627776 := by omega
  have kt := takeR_ok kp
  have kx := vtext_ok kp most
  refine (take_all _ pl _ rq kp nl1).mono ?_
  rintro e w5 ⟨v5, rfl, r5, hb⟩
  have rp := rp.below hb
  have rq := rq.below hb
  have ho := own_same ho hb
  have hB := hB.trans (hb.mono hB.size)
  clear hb
  go_wp2_with fail
  refine (rtake_all _ pl _ rp kp nl1).mono ?_
  rintro e w6 ⟨v6, rfl, r6, hb⟩
  have rp := rp.below hb
  have rq := rq.below hb
  have r5 := r5.below hb
  have ho := own_same ho hb
  have hB := hB.trans (hb.mono hB.size)
  clear hb
  go_wp2_with fail
  refine (text_all _ pl most _ rq kp nl1 hm).mono ?_
  rintro e w7 ⟨v7, v7b, rfl, r7, r7b, hb⟩
  have rp := rp.below hb
  have rq := rq.below hb
  have r5 := r5.below hb
  have r6 := r6.below hb
  have ho := own_same ho hb
  have hB := hB.trans (hb.mono hB.size)
  clear hb
  go_wp2_with fail
  refine (rtext_all _ pl most _ rp kp nl1 hm).mono ?_
  rintro e w8 ⟨v8, v8b, rfl, r8, r8b, hb⟩
  have rp := rp.below hb
  have rq := rq.below hb
  have r5 := r5.below hb
  have r6 := r6.below hb
  have r7 := r7.below hb
  have r7b := r7b.below hb
  have ho := own_same ho hb
  have hB := hB.trans (hb.mono hB.size)
  clear hb
  have c165 := ho.cellAt pl.length (by omega)
  rw [List.getElem?_append_right (by simp)] at c165
  simp only [List.length_map, Nat.sub_self, List.getElem?_cons_zero] at c165
  go_wp2_with fail
  refine (same_yes _ _ _ _ r5 r6).mono ?_
  rintro e w9 ⟨rfl, rfl⟩
  go_wp2_with fail
  refine (same_yes _ _ _ _ r7 r8).mono ?_
  rintro e w9 ⟨rfl, rfl⟩
  go_wp2_with fail
  refine (same_yes _ _ _ _ r7b r8b).mono ?_
  rintro e w9 ⟨rfl, rfl⟩
  go_wp2_with fail
  refine (same_yes _ _ _ _ rq rp).mono ?_
  rintro e w9 ⟨rfl, rfl⟩
  clear kt kx
  go_wp2_with fail
  go_ret
  exact ⟨by simp, hB⟩

open Go.ChangeShapes Go.WideShapes Go.ChangeAt
set_option maxRecDepth 100000 in
theorem reads_lifted (os : Os) (started : os.Started) (H : Type) (enc : TypeId × Value → H) :
    ReturnsInHanded {} Try.checked os 6 .any (Rows.vintReadsSpec.pre6 enc Try.prog Try.f6 Rows.vintReadsRow.domain false) (Rows.vintReadsSpec.post enc Try.prog Try.f6 false true false false) := by
  refine returnsInHanded_of_change (C := Try.checked) own started (by kernel_rfl) Try.func6
    (ChangeSpec.witness6 (enc := enc) (C := Try.checked) false ⟨#[], #[.slice none 0 0, .int .i64 0], []⟩ 8 (by kernel_rfl) (by kernel_rfl) (by kernel_rfl) (by kernel_rfl)) ?_
  intro W base args ds gs before hval0 hW hcnd _
  have hval : ∀ (j : Nat) t v, Try.f6.params[j]? = some t → args[j]? = some v → Value.okWide Try.prog W .any base t v := hval0
  have hW' := hW
  obtain ⟨p, q, hA0, hV, rfl, hfz, hnd⟩ := hW
  have hA : DataW.TrodAll enc Try.prog W 0 (fun _ => true) true Try.f6.params.toList args.toList ds p := hA0
  rw [Try.params6] at hA hval
  obtain ⟨v0, vs0, d0, ds0, p0, q0, hargs, rfl, rfl, h0, r0⟩ := trodAll_cons hA
  obtain ⟨v1, vs1, d1, ds1, p1, q1, rfl, rfl, rfl, h1, r1⟩ := trodAll_cons r0
  obtain ⟨rfl, rfl, rfl⟩ := trodAll_nil r1
  obtain rfl : args = #[v0, v1] := by cases args; simp_all
  obtain ⟨rfl, rfl⟩ := trodVars_none hV
  obtain ⟨A0, len0, cap0, rfl⟩ := okWide_slice Try.underlying23 (hval 0 23 v0 rfl rfl)
  have k0 := h0
  have lt0 : ∀ x ∈ p0, x.block < W.heap.size := by obtain ⟨m, hm⟩ := k0; exact DataW.trod_lt m _ _ _ hm
  obtain ⟨l0, hR0, hK0⟩ := bytes_of h0
  obtain ⟨a1, rfl, rfl, rfl, w1⟩ := open_int Try.underlying3 (hval 1 3 v1 rfl rfl) h1
  clear hA0 hval0
  refine (reads_walk a1 _ l0 W (bounds_i64 w1).2 hR0 hK0).mono fun e W' ⟨he, bel⟩ => ?_
  subst he
  exact ⟨_, rfl, _, _, _, [], _, [], hW', trodAll_mk1 (shut_bool Try.underlying4 _), (trodAll_cons_mk (Below.trod laidOut (by kernel_rfl) (of_decide_eq_true (by kernel_rfl)) k0 bel lt0) (trodAll_cons_mk (shut_int Try.underlying3 w1) trodAll_mk0)), rfl, bel.frame _, fun h => by cases h⟩

theorem reads_holds : Rows.VintReadsSaid :=
  OpenClaim.holds_of_wide 6 Try.f6 rfl rfl rfl rfl rfl rfl rfl ⟨rfl, rfl, rfl, rfl, rfl⟩ rfl rfl rfl rfl rfl (by kernel_rfl) Try.func6 (by kernel_rfl)
    (of_decide_eq_true (by kernel_rfl)) (by unfold Func.isWrapper; first | (rw [if_pos (by decide +kernel)]; kernel_rfl) | (rw [if_neg (by decide +kernel)]; exact ⟨rfl, rfl⟩))
    (fun os started H enc _ => reads_lifted os started H enc)
#print axioms reads_holds

end Go.Proofs.Ytliagckgollalaa
