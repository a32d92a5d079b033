/-
  The reference quilt: Held, Done.
-/
import Derived.Test.YtpkondemkpogoaaRref
namespace Go.Proofs.Ytpkondemkpogoaa
open Go.RowKit
set_option linter.unusedVariables false
set_option linter.unusedSimpArgs false

theorem cnt_step {p : Int → Bool} {x : Int} : ∀ {ks : List Int}, ks.Nodup → x ∈ ks → ((ks.filter (fun z => p z && !decide (z = x))).length + (if p x = true then 1 else 0) = (ks.filter p).length) := by
  intro ks
  induction ks with
  | nil => intro _ h; simp at h
  | cons y r ih =>
    intro hd hx
    rw [List.nodup_cons] at hd
    by_cases e : x = y
    · subst e
      have hr : (r.filter (fun z => p z && !decide (z = x))) = r.filter p := List.filter_congr (fun z hz => by
        have : z ≠ x := fun e2 => hd.1 (e2 ▸ hz)
        simp [this])
      rw [List.filter_cons, List.filter_cons, hr]
      cases p x <;> simp
    · have hxr : x ∈ r := by
        rcases List.mem_cons.1 hx with h | h
        · exact absurd h e
        · exact h
      have h1 := ih hd.2 hxr
      rw [List.filter_cons, List.filter_cons]
      have hy : (p y && !decide (y = x)) = p y := by simp [Ne.symm e]
      rw [hy]
      cases p y with
      | true => simp only [if_true, List.length_cons]; omega
      | false => simpa using h1
def cntL (es : List (Int × Int)) (rd : Int) (left : Int → Bool) : Nat := ((keys es).filter (fun z => left z && decide (rd ≤ z))).length
theorem cntL_start {es : List (Int × Int)} {q : Q} (h : XR es q) (hi : QI q) : cntL es q.rd (fun x => (lkp es x).isSome) = hld q.L := by
  have hp : (keys es).Perm (allP q) := (List.perm_ext_iff_of_nodup h.nd (all_nodup hi)).2 (fun n => by rw [h.cm n, all_mem hi])
  unfold cntL
  have h1 : ((keys es).filter (fun z => (lkp es z).isSome && decide (q.rd ≤ z))) = (keys es).filter (fun z => decide (q.rd ≤ z)) := List.filter_congr (fun z hz => by rw [lkp_mem.2 hz, Bool.true_and])
  rw [h1, (hp.filter _).length_eq]
  unfold allP
  rw [List.filter_append]
  have h2 : ((List.range q.rd.toNat).map (fun i : Nat => (i : Int))).filter (fun z => decide (q.rd ≤ z)) = [] := by
    rw [List.filter_eq_nil_iff]
    intro z hz
    simp only [List.mem_map, List.mem_range] at hz
    obtain ⟨i, hi2, rfl⟩ := hz
    have := hi.k.lo
    simp
    omega
  have h3 : (ps q.L).filter (fun z => decide (q.rd ≤ z)) = ps q.L := by
    rw [List.filter_eq_self]
    intro z hz
    simpa using ps_low hi.k.ch z hz
  rw [h2, h3, List.nil_append, ps_len]
theorem cntL_step {es : List (Int × Int)} {rd : Int} {left : Int → Bool} (h : (keys es).Nodup) {x : Int} (hl : left x = true) (hx : x ∈ keys es) : cntL es rd (fun z => left z && !decide (z = x)) + (if rd ≤ x then 1 else 0) = cntL es rd left := by
  have h1 := cnt_step (p := fun z => left z && decide (rd ≤ z)) h hx
  have e : (keys es).filter (fun z => (left z && !decide (z = x)) && decide (rd ≤ z)) = (keys es).filter (fun z => (left z && decide (rd ≤ z)) && !decide (z = x)) := List.filter_congr (fun z _ => by
    cases left z <;> cases decide (z = x) <;> cases decide (rd ≤ z) <;> rfl)
  unfold cntL
  rw [e]
  simp only [hl, Bool.true_and, decide_eq_true_eq] at h1
  exact h1
theorem cntL_none {es : List (Int × Int)} {rd : Int} {left : Int → Bool} (h : ∀ x, left x = false) : cntL es rd left = 0 := by
  unfold cntL
  rw [List.length_eq_zero_iff, List.filter_eq_nil_iff]
  intro z _
  simp [h z]
set_option maxHeartbeats 8000000 in
set_option maxRecDepth 100000 in
theorem rheld_law (g mb : Nat) (es : List (Int × Int)) (q : Q) (w : World) (hX : RX w g mb es q) (hR : XR es q) (hI : QI q) (hsm : es.length ≤ 1000000) :
    Calls Try.prog 27 #[.pointer (some ⟨g, 0, none⟩)] w fun e w' => e = .returned (.int .i64 (hld q.L)) ∧ Below w.heap.size w w' := by
  have HST := Lib.hid (cntL_start hR hI)
  have HLN := Lib.hid (hR.len hI)
  have hlo := hI.k.lo
  have hnd := hR.nd
  have hglt := hX.1.lt
  have hne := blk_rmap_ne hX.1 hX.2
  have hM := hX.2
  have c0 : World.cell? w ⟨g, 0, none⟩ = some (.map (some mb)) := hX.1.cell 0
  have c1 : World.cell? w ⟨g, 1, none⟩ = some (.int .u64 q.rd) := hX.1.cell 1
  have c2 : World.cell? w ⟨g, 2, none⟩ = some (.int .u64 q.hi) := hX.1.cell 2
  have c3 : World.cell? w ⟨g, 3, none⟩ = some (.int .u64 q.la) := hX.1.cell 3
  have c4 : World.cell? w ⟨g, 4, none⟩ = some (.bool q.kn) := hX.1.cell 4
  obtain ⟨rg, hrg⟩ : ∃ rg, rg = w.heap.size := ⟨_, rfl⟩
  go_enter Try.func27, Try.ntmps27
  go_wp2_with (first | (at_range; refine wpList_range57 _ rfl _ rfl mb es rfl hM ?_; intro w8 hR8 hg8; go_frame) | fail)
  rw [← hrg] at hR8 ⊢
  have hb8 := below_of_grown hg8 (Nat.le_refl _) (fun g hg => by cases hg)
  have hrg2 : w.heap.size ≤ rg := by omega
  clear hrg hg8 hM c0 c1 c2 c3 c4
  have HX := Lib.hid hX.1
  have hst := HST.out
  clear hX
  go_loopw [3] (fun s3 wr => ∃ (c : Nat) (left : Int → Bool), s3 = .int .i64 c ∧ RanB wr mb rg es left ∧ c + cntL es q.rd left = hld q.L ∧ Below w.heap.size w wr) (fun _ wr => wr.rangeLeft mb rg)
  case atStart => exact ⟨0, _, rfl, hR8, by rw [hst]; omega, hb8⟩
  case round =>
    clear hR8 hb8 hst
    obtain ⟨c, left, rfl, hR, hcn, hb⟩ := hrel
    have hcl : (c : Int) ≤ 1000000 := by have := HLN.out; omega
    go_wp2_with (first | (at_next; refine wpList_next57 _ rfl _ rfl mb rg es left rfl hR ?_ ?_) | fail)
    · intro hdone
      have HCN := Lib.hid hcn
      have h0 := cntL_none (es := es) (rd := q.rd) hdone
      have HH := Lib.hid (show c = hld q.L by omega)
      clear hcn h0 hR hdone
      go_wp2_with fail
      go_ret
      exact ⟨by rw [← HH.out]; rfl, hb⟩
    · intro x cx w9 hx0 hx1 hlx hxk hR9 hlt9 hg9 hen
      have hst := cntL_step (rd := q.rd) hnd hlx hxk
      have hb9 := hb.grown hg9 hb.size (fun b hb => by injection hb with hb; omega)
      have hX9 := HX.out.below hb9 hglt
      have d1 : w9.cell? ⟨g, 1, none⟩ = some (.int .u64 q.rd) := hX9.cell 1
      have d0 : w9.cell? ⟨g, 0, none⟩ = some (.map (some mb)) := hX9.cell 0
      by_cases hx : q.rd ≤ x
      · rw [if_pos hx] at hst
        have HF := Lib.hid (show (c + 1) + cntL es q.rd (fun z => left z && !decide (z = x)) = hld q.L by omega)
        clear hst hcn hR hb hlx hg9 hX9
        go_wp2_with fail
        go_roundw
        case rel => exact ⟨c + 1, _, by go_num, hR9, HF.out, hb9⟩
        case measure => exact hlt9
      · rw [if_neg hx] at hst
        have HF := Lib.hid (show c + cntL es q.rd (fun z => left z && !decide (z = x)) = hld q.L by omega)
        clear hst hcn hR hb hlx hg9 hX9
        go_wp2_with fail
        go_roundw
        case rel => exact ⟨c, _, rfl, hR9, HF.out, hb9⟩
        case measure => exact hlt9
set_option maxHeartbeats 8000000 in
set_option maxRecDepth 100000 in
theorem rdone_law (g mb : Nat) (es : List (Int × Int)) (q : Q) (w : World) (hX : RX w g mb es q) :
    Calls Try.prog 28 #[.pointer (some ⟨g, 0, none⟩)] w fun e w' => e = .returned (.bool q.done) ∧ Below w.heap.size w w' := by
  obtain ⟨L, rd, hi, la, kn⟩ := q
  have c1 : w.cell? ⟨g, 1, none⟩ = some (.int .u64 rd) := hX.1.cell 1
  have c3 : w.cell? ⟨g, 3, none⟩ = some (.int .u64 la) := hX.1.cell 3
  have c4 : w.cell? ⟨g, 4, none⟩ = some (.bool kn) := hX.1.cell 4
  clear hX
  show Calls Try.prog 28 #[.pointer (some ⟨g, 0, none⟩)] w fun e w' => e = .returned (.bool (kn && decide (rd = la))) ∧ Below w.heap.size w w'
  cases kn
  · go_enter Try.func28, Try.ntmps28
    go_wp2_with fail
    go_quiet (fail)
    go_wp2_with fail
    go_ret
    exact ⟨rfl, below_drewN (Below.refl _ _) _⟩
  · by_cases h : rd = la
    · have h' : (rd == la) = true := by simpa using h
      rw [decide_eq_true h]
      clear h
      go_enter Try.func28, Try.ntmps28
      go_wp2_with fail
      go_quiet (fail)
      go_wp2_with fail
      go_ret
      exact ⟨rfl, below_drewN (Below.refl _ _) _⟩
    · have h' : (rd == la) = false := by simpa using h
      rw [decide_eq_false h]
      clear h
      go_enter Try.func28, Try.ntmps28
      go_wp2_with fail
      go_quiet (fail)
      go_wp2_with fail
      go_ret
      exact ⟨rfl, below_drewN (Below.refl _ _) _⟩

end Go.Proofs.Ytpkondemkpogoaa
