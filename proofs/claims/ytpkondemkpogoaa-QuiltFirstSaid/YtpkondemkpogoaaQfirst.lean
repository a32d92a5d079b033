/-
  QuiltFirst: of a byte that comes more than once, each time another one, the first counts.
-/
import Derived.Test.YtpkondemkpogoaaQopen
namespace Go.Proofs.Ytpkondemkpogoaa
open Go.RowKit
set_option linter.unusedVariables false
set_option linter.unusedSimpArgs false

theorem err_nk {hi la : Int} {off n : Int} (h : off + n ≤ QM) (hn : 0 ≤ n) : chkE hi la false off n false = 0 := by
  unfold chkE
  rw [if_neg (by omega), if_neg (by simp)]
theorem trm_id {rd : Int} {x : Pat} (h : rd ≤ x.1) : trm rd x = x := if_neg (by omega)
theorem min_thousand {k : Nat} (h : k ≤ 1000) : min k (max (1000 : Int) 0).toNat = k := by
  have : (max (1000 : Int) 0).toNat = 1000 := rfl
  omega
theorem QA.row {B : Nat} {w0 w w' : World} {g : Nat} {q : Q} {r : Option Nat} (h : QA B w0 g q) (hb : Below w0.heap.size w0 w) (hg : w.grownBy w' r) (hr : ∀ m, r = some m → w0.heap.size ≤ m) : QA B w' g q := by
  obtain ⟨rb, d, h1, h2⟩ := h
  obtain ⟨V, rfl, k2, k3⟩ := h1.me
  refine ⟨V.ownBlock, d, ⟨h1.lo, ⟨V, rfl, (k2.same hb).grown hg (fun e => by have := hr g e.symm; have := k2.lt; omega), (k3.below hb).kept hg ?_⟩, fun x hx => ⟨((h1.ps x hx).1.below hb).kept hg (fun b e e2 => by have := hr b e2.symm; have := (h1.ps x hx).1.olt b e; omega), fun b _ => trivial⟩⟩, h2⟩
  rcases hV : V.ownBlock with _ | b
  · exact .inl rfl
  · exact .inr (fun e => by have := hr b e.symm; have := (k3.lt b hV).2; omega)
def fQ (a b : List Int) (at_ : Int) : Q := (Q.new.put 0 a false).put at_ b false
theorem first_err1 (a : List Int) (ha : a.length ≤ 60) : Q.new.err 0 a false = 0 := err_nk (by simp only [QM]; omega) (by omega)
theorem first_put1 (a : List Int) (ha : a.length ≤ 60) : Q.new.put 0 a false = ⟨lst (0, a), 0, a.length, 0, false⟩ := by
  unfold Q.put
  rw [if_pos (first_err1 a ha), trm_id (by simp [Q.new])]
  simp [Q.new, putL, laE]
theorem first_err2 (a b : List Int) (at_ : Int) (h0 : 0 ≤ at_) (h1 : at_ < 40) (ha : a.length ≤ 60) (hb : b.length ≤ 60) : (Q.new.put 0 a false).err at_ b false = 0 := by
  rw [first_put1 a ha]
  exact err_nk (by simp only [QM]; omega) (by omega)
theorem first_put2 (a b : List Int) (at_ : Int) (h0 : 0 ≤ at_) (h1 : at_ < 40) (ha : a.length ≤ 60) (hb : b.length ≤ 60) : (fQ a b at_).L = putL (at_, b) (lst (0, a)) ∧ (fQ a b at_).rd = 0 ∧ (fQ a b at_).kn = false := by
  have he := first_err2 a b at_ h0 h1 ha hb
  unfold fQ
  rw [first_put1 a ha] at he ⊢
  unfold Q.put
  rw [if_pos he, trm_id h0]
  exact ⟨rfl, rfl, rfl⟩
theorem first_law (a b : List Int) (at_ : Int) (h0 : 0 ≤ at_) (h1 : at_ < 40) (ha : a.length ≤ 60) (hb : b.length ≤ 60) :
    (fQ a b at_).got 1000 = (if at_ ≤ a.length ∧ (a.length : Int) < at_ + b.length then a ++ b.drop (a.length - at_.toNat) else a) ∧ (fQ a b at_).kn = false := by
  obtain ⟨e1, e2, e3⟩ := first_put2 a b at_ h0 h1 ha hb
  refine ⟨?_, e3⟩
  have key : ∀ (L : List Pat) (l : List Int), got l.length L = l → rdy 0 L = l.length → l.length ≤ 1000 → got (min (rdy 0 L) (max (1000 : Int) 0).toNat) L = l := by
    intro L l g1 g2 g3
    rw [g2, min_thousand g3, g1]
  unfold Q.got Q.n tkN
  rw [e1, e2]
  by_cases ha0 : a = []
  · subst ha0
    have hl : lst ((0 : Int), ([] : List Int)) = [] := rfl
    have hp : putL (at_, b) [] = lst (at_, b) := rfl
    rw [hl, hp]
    by_cases hb0 : b = []
    · subst hb0
      simp [lst, rdy, got]
    · have hbl : 0 < b.length := List.length_pos_iff.2 hb0
      have hlb : lst (at_, b) = [(at_, b)] := by unfold lst; rw [if_neg hb0]
      rw [hlb]
      by_cases hat : at_ = 0
      · subst hat
        rw [if_pos (by simp; omega)]
        refine key _ _ ?_ ?_ (by simp; omega)
        · simp [got]
        · simp [rdy]
      · rw [if_neg (by simp; omega)]
        simp [rdy, hat, got]
  · have hal : 0 < a.length := List.length_pos_iff.2 ha0
    have hla : lst ((0 : Int), a) = [(0, a)] := by unfold lst; rw [if_neg ha0]
    rw [hla]
    have hpa : pe ((0 : Int), a) = a.length := by unfold pe; simp
    by_cases hpb : pe (at_, b) ≤ 0
    · have hb0 : b = [] := by
        unfold pe at hpb
        exact List.eq_nil_of_length_eq_zero (by simp only at hpb; omega)
      subst hb0
      have hp := (put_empty (x := (at_, [])) rfl [((0 : Int), a)]).1
      rw [hp, if_neg (by simp only [List.length_nil]; omega)]
      refine key _ _ ?_ ?_ (by omega)
      · simp [got]
      · simp [rdy]
    · have hp : putL (at_, b) [((0 : Int), a)] = hd1 (at_, b) (0, a) ++ (0, a) :: lst (adv (at_, b) (0, a)) := by
        show (if pe (at_, b) ≤ 0 then _ else _) = _
        rw [if_neg hpb]
        rfl
      have hh : hd1 (at_, b) ((0 : Int), a) = [] := if_neg (by simp only; omega)
      rw [hp, hh, List.nil_append]
      have hav : adv (at_, b) ((0 : Int), a) = (at_ + (min (max (a.length : Int) at_ - at_).toNat b.length : Nat), b.drop (min (max (a.length : Int) at_ - at_).toNat b.length)) := by
        unfold adv avn
        rw [hpa]
      rw [hav]
      by_cases hc : at_ ≤ a.length ∧ (a.length : Int) < at_ + b.length
      · rw [if_pos hc]
        have hn : min (max (a.length : Int) at_ - at_).toNat b.length = a.length - at_.toNat := by omega
        rw [hn]
        have hdl : (b.drop (a.length - at_.toNat)).length = b.length - (a.length - at_.toNat) := List.length_drop
        have hdp : 0 < (b.drop (a.length - at_.toNat)).length := by rw [hdl]; omega
        have hne : b.drop (a.length - at_.toNat) ≠ [] := List.length_pos_iff.1 hdp
        have hoff : at_ + ((a.length - at_.toNat : Nat) : Int) = a.length := by omega
        rw [hoff]
        have hl2 : lst ((a.length : Int), b.drop (a.length - at_.toNat)) = [((a.length : Int), b.drop (a.length - at_.toNat))] := by unfold lst; rw [if_neg hne]
        rw [hl2]
        refine key _ _ ?_ ?_ (by rw [List.length_append, hdl]; omega)
        · rw [got_cons, if_neg (by rw [List.length_append]; simp only; omega), got_cons, if_neg (by rw [List.length_append]; simp only; omega)]
          simp [got]
        · rw [rdy_cons, if_pos rfl, hpa, rdy_cons, if_pos rfl]
          simp [rdy]
      · rw [if_neg hc]
        have hr : rdy (a.length : Int) (lst (at_ + (min (max (a.length : Int) at_ - at_).toNat b.length : Nat), b.drop (min (max (a.length : Int) at_ - at_).toNat b.length))) = 0 := by
          unfold lst
          split
          · rfl
          · next hne =>
            have hne' : ¬ b.drop (min (max (a.length : Int) at_ - at_).toNat b.length) = [] := hne
            rw [List.drop_eq_nil_iff] at hne'
            rw [rdy_cons, if_neg (by simp only; omega)]
        refine key _ _ ?_ ?_ (by omega)
        · rw [got_cons, if_neg (by simp only; omega)]
          simp only [Nat.sub_self]
          have : ∀ z : Pat, got 0 (lst z) = [] := fun z => by
            unfold lst
            split
            · rfl
            · next hz => rw [got_cons, if_pos (len_pos hz)]; simp
          rw [this, List.append_nil]
        · rw [rdy_cons, if_pos rfl, hpa, hr]
          rfl
set_option maxHeartbeats 8000000 in
set_option maxRecDepth 100000 in
theorem first_walk (v1 v2 : Value) (l1 l2 : List Int) (of : Int) (w : World) (h1 : Rd w .u8 v1 l1) (k1 : BytesOk l1) (h2 : Rd w .u8 v2 l2) (k2 : BytesOk l2) (hof : 0 ≤ of ∧ of ≤ 255) :
    Calls Try.prog 3 #[v1, v2, .int .u8 of] w fun e w' => e = .returned (.bool true) ∧ Below w.heap.size w w' := by
  obtain ⟨i0, hi0, hz0, hz1, hz2⟩ := info_parts infoB
  obtain ⟨A1, c1, rfl⟩ := h1.form
  obtain ⟨A2, c2, rfl⟩ := h2.form
  obtain ⟨a, haa⟩ : ∃ a, a = l1.take 60 := ⟨_, rfl⟩
  obtain ⟨b, hbb⟩ : ∃ b, b = l2.take 60 := ⟨_, rfl⟩
  have ha : a.length ≤ 60 := by rw [haa, List.length_take]; omega
  have hb : b.length ≤ 60 := by rw [hbb, List.length_take]; omega
  have ka : BytesOk a := by rw [haa]; exact k1.take 60
  have kb : BytesOk b := by rw [hbb]; exact k2.take 60
  have hat0 : 0 ≤ of % 40 := by omega
  have hat1 : of % 40 < 40 := by omega
  have hL := first_law a b (of % 40) hat0 hat1 ha hb
  have e1 := first_err1 a ha
  have e2 := first_err2 a b (of % 40) hat0 hat1 ha hb
  have HL := Lib.hid hL
  clear hL
  have HAA := Lib.hid haa
  have HBB := Lib.hid hbb
  clear haa hbb
  have haw := awake_any w
  go_enter Try.func3, Try.ntmps3
  go_wp2_with fail
  (with_reducible refine haw.mono ?_)
  rintro e w1 ⟨rfl, hB1⟩
  have r1 := h1.below hB1
  have r2 := h2.below hB1
  have hc1 := cut_any _ l1 60 w1 r1 (by decide)
  rw [← HAA.out] at hc1
  clear h1 h2 haw
  go_wp2_with fail
  refine hc1.mono ?_
  rintro e w2 ⟨va, rfl, hoa, hb2⟩
  have hc2 := cut_any _ l2 60 w2 (r2.below hb2) (by decide)
  rw [← HBB.out] at hc2
  have hB2 := hB1.trans (hb2.mono hB1.size)
  clear hc1 r1 r2
  go_wp2_with fail
  refine hc2.mono ?_
  rintro e w3 ⟨vb, rfl, hob, hb3⟩
  have hoa3 := own_same hoa hb3
  have hB3 := hB2.trans (hb3.mono hB2.size)
  clear hc2 hoa hb2 hB1
  go_wp2_with fail
  (with_reducible refine (new_law _).mono ?_)
  rintro e w4 ⟨rfl, hQ4, hb4⟩
  have hoa4 := own_same hoa3 hb4
  have hob4 := own_same hob hb4
  obtain ⟨B, hBB⟩ : ∃ B, B = w3.heap.size := ⟨_, rfl⟩
  have hs4 : B ≤ w4.heap.size := by rw [hBB]; exact hb4.size
  have hb4' : Below B w3 w4 := by rw [hBB]; exact hb4
  have hBw : w.heap.size ≤ B := by rw [hBB]; exact hB3.size
  rw [← hBB] at hQ4 ⊢
  clear hoa3 hob hb4
  have ra4 := rd_of_own (k := .u8) hoa4
  have rb4 := rd_of_own (k := .u8) hob4
  obtain ⟨Aa, ca, rfl⟩ := ra4.form
  obtain ⟨Ab, cb, rfl⟩ := rb4.form
  have hp1 := put_law B B Q.new 0 _ a false w4 hQ4 QI.new (by decide) hs4 ra4 (by omega) ka (by decide)
  rw [e1] at hp1
  have hI1 : QI (Q.new.put 0 a false) := QI.new.put (by decide) ka
  have hh1 : hld (Q.new.put 0 a false).L ≤ 60 := by have := Q.put_hld Q.new 0 a false; have e : hld Q.new.L = 0 := rfl; omega
  clear hQ4 ra4
  go_wp2_with fail
  rw [← hBB]
  (with_reducible refine hp1.mono ?_)
  rintro e w5 ⟨rfl, hQ5, hb5, hk5⟩
  have rb5 := rd_of_own (k := .u8) (own_keep hob4 hk5 (by decide) (by decide))
  have hs5 : B ≤ w5.heap.size := Nat.le_trans hs4 hb5.size
  have hp2 := put_law B B _ (of % 40) _ b false w5 hQ5 hI1 (by omega) hs5 rb5 (by omega) kb (by omega)
  rw [e2] at hp2
  have hI2 : QI (fQ a b (of % 40)) := hI1.put hat0 kb
  have hh2 : hld (fQ a b (of % 40)).L ≤ 120 := by have := Q.put_hld (Q.new.put 0 a false) (of % 40) b false; unfold fQ; omega
  have hB5 : Below B w3 w5 := hb4'.trans hb5
  have hoa5 := own_keep hoa4 hk5 (by decide) (by decide)
  have hob5 := own_keep hob4 hk5 (by decide) (by decide)
  clear hp1 hQ5 hb5 hk5 rb5 hs4 hoa4 hob4 hI1 hb4'
  go_wp2_with fail
  rw [← hBB]
  (with_reducible refine hp2.mono ?_)
  rintro e w6 ⟨rfl, hQ6, hb6, hk6⟩
  have hQ6' : QA B w6 B (fQ a b (of % 40)) := hQ6
  have hs6 : B ≤ w6.heap.size := Nat.le_trans hs5 hb6.size
  have hB6 : Below B w3 w6 := hB5.trans hb6
  have hoa6 := own_keep hoa5 hk6 (by decide) (by decide)
  have hob6 := own_keep hob5 hk6 (by decide) (by decide)
  have ra6 := rd_of_own (k := .u8) hoa6
  have hcp := copy_any _ a w6 ra6 (by omega)
  clear hp2 hQ6 hb6 hk6 hB5 hoa5 hob5 hs5
  go_wp2_with fail
  (with_reducible refine hcp.mono ?_)
  rintro e w7 ⟨vw, rfl, how, hb7⟩
  have hQ7 := hQ6'.below hb7
  have hs7 : B ≤ w7.heap.size := Nat.le_trans hs6 hb7.size
  have hB7 : Below B w3 w7 := hB6.trans (hb7.mono hs6)
  have rb7 := (rd_of_own (k := .u8) hob6).below hb7
  obtain ⟨Aw, cw, rfl, hw1, hw2, hw3⟩ := sl_of_own how
  have hs67 : w6.heap.size ≤ w7.heap.size := hb7.size
  clear hcp hoa6 hob6 ra6 hB6
  by_cases c1 : of % 40 ≤ (a.length : Int)
  · by_cases c2 : (a.length : Int) < of % 40 + (b.length : Int)
    · have hwant := HL.out.1
      rw [if_pos ⟨c1, c2⟩] at hwant
      have HW := Lib.hid hwant
      obtain ⟨k, hk⟩ : ∃ k, k = a.length - (of % 40).toNat := ⟨_, rfl⟩
      obtain ⟨_, _, hlc, hcm, hrv⟩ := rb7.rdv
      obtain ⟨bb, ob, rfl, _, _⟩ := hrv.2 0 (by omega)
      have hcm' : cb ≤ 9223372036854775807 := by unfold maxLen at hcm; omega
      have hkk : (a.length : Int) - of % 40 = (k : Int) := by omega
      have hk1 : (k : Int) < (b.length : Int) := by omega
      have hk2 : (k : Int) < (cb : Int) := by omega
      have hk3 : (b.length : Int) ≤ (cb : Int) := by omega
      have hsuf := rb7.suf (m := k) (by omega)
      have hsrc := hsuf.rdv.2.2.2.2
      have hdl : (b.drop k).length = b.length - k := List.length_drop
      have HK := Lib.hid hk
      have HDL := Lib.hid hdl
      clear hwant hk hrv hsuf hdl rb7
      go_wp2_with (first | (at_builtin; refine wpList_append_any _ rfl _ _ 22 rfl w6.heap.size 5 i0 _ 1 1 Try.underlying22 hi0 hz0 hz1 hz2 rfl (by decide) (.slice Aw a.length cw) a.length (a.map (Value.int .u8)) rfl how (some ⟨bb, ob + k, none⟩) (b.length - k) (cb - k) ((b.drop k).map (Value.int .u8)) rfl hsrc (oneInts _ _) (by unfold maxLen; omega) (by omega) hs67 (fun h => by cases h) ?_; intro v2 wa hown2 hgrow2 hat2; have hQ8 := QA.row hQ6' hb7 hgrow2 (fun m hm => (how.lt m hm).1); have hB8 : Below B w3 wa := hB7.grown hgrow2 hs7 (fun m hm => Nat.le_trans hs6 (how.lt m hm).1); have hs8 : B ≤ wa.heap.size := Nat.le_trans hs7 hgrow2.size; have hown3 : wa.ownsRow w6.heap.size 5 1 v2 (a ++ b.drop k).length ((a ++ b.drop k).map (Value.int .u8)) := (by rw [List.length_append, HDL.out, List.map_append]; exact hown2); obtain ⟨A2x, c2x, rfl, _⟩ := sl_of_own hown2; clear hown2 hgrow2 hat2 hQ7 hQ6' how hsrc hb7) | fail)
      have htk := take_law B B (fQ a b (of % 40)) 1000 wa hQ8 hI2 (by omega) hs8 (by decide)
      have hd : ((fQ a b (of % 40)).take 1000).done = false := by simp [Q.done, Q.take, HL.out.2]
      rw [hd] at htk
      have HOW := Lib.hid hown3
      have hB9 := hB8
      clear hQ8 hown3 hB8 hd
      go_wp2_with fail
      rw [← hBB]
      (with_reducible refine htk.mono ?_)
      rintro e w8 ⟨vg, rfl, _, hog, hb8, hk8⟩
      have hog2 := own_keep HOW.out hk8 (by decide) (by decide)
      have rg := rd_of_own (k := .u8) hog
      rw [HW.out, ← HK.out] at rg
      have hsm := same_yes _ _ _ w8 rg (rd_of_own (k := .u8) hog2)
      have hB10 := hB9.trans hb8
      clear htk hog hog2 rg hb8 hk8
      go_wp2_with fail
      (with_reducible refine hsm.mono ?_)
      rintro e w9 ⟨rfl, rfl⟩
      go_wp2_with fail
      go_ret
      exact ⟨rfl, hB3.trans (hB10.mono hBw)⟩
    · have hwant := HL.out.1
      rw [if_neg (fun h => c2 h.2)] at hwant
      have HW := Lib.hid hwant
      clear hwant hQ6' hb7
      have htk := take_law B B (fQ a b (of % 40)) 1000 w7 hQ7 hI2 (by omega) hs7 (by decide)
      have hd : ((fQ a b (of % 40)).take 1000).done = false := by simp [Q.done, Q.take, HL.out.2]
      rw [hd] at htk
      have HOW := Lib.hid how
      have hB9 := hB7
      clear hQ7 how hB7 hd
      go_wp2_with fail
      rw [← hBB]
      (with_reducible refine htk.mono ?_)
      rintro e w8 ⟨vg, rfl, _, hog, hb8, hk8⟩
      have hog2 := own_keep HOW.out hk8 (by decide) (by decide)
      have rg := rd_of_own (k := .u8) hog
      rw [HW.out] at rg
      have hsm := same_yes _ _ _ w8 rg (rd_of_own (k := .u8) hog2)
      have hB10 := hB9.trans hb8
      clear htk hog hog2 rg hb8 hk8
      go_wp2_with fail
      (with_reducible refine hsm.mono ?_)
      rintro e w9 ⟨rfl, rfl⟩
      go_wp2_with fail
      go_ret
      exact ⟨rfl, hB3.trans (hB10.mono hBw)⟩
  · have hwant := HL.out.1
    rw [if_neg (fun h => c1 h.1)] at hwant
    have HW := Lib.hid hwant
    clear hwant hQ6' hb7
    have htk := take_law B B (fQ a b (of % 40)) 1000 w7 hQ7 hI2 (by omega) hs7 (by decide)
    have hd : ((fQ a b (of % 40)).take 1000).done = false := by simp [Q.done, Q.take, HL.out.2]
    rw [hd] at htk
    have HOW := Lib.hid how
    have hB9 := hB7
    clear hQ7 how hB7 hd
    go_wp2_with fail
    rw [← hBB]
    (with_reducible refine htk.mono ?_)
    rintro e w8 ⟨vg, rfl, _, hog, hb8, hk8⟩
    have hog2 := own_keep HOW.out hk8 (by decide) (by decide)
    have rg := rd_of_own (k := .u8) hog
    rw [HW.out] at rg
    have hsm := same_yes _ _ _ w8 rg (rd_of_own (k := .u8) hog2)
    have hB10 := hB9.trans hb8
    clear htk hog hog2 rg hb8 hk8
    go_wp2_with fail
    (with_reducible refine hsm.mono ?_)
    rintro e w9 ⟨rfl, rfl⟩
    go_wp2_with fail
    go_ret
    exact ⟨rfl, hB3.trans (hB10.mono hBw)⟩
open Go.ChangeShapes Go.WideShapes Go.ChangeAt
set_option maxRecDepth 100000 in
theorem first_lifted (os : Os) (started : os.Started) (H : Type) (enc : TypeId × Value → H) :
    ReturnsInHanded {} Try.checked os 3 .any (Rows.quiltFirstSpec.pre6 enc Try.prog Try.f3 Rows.quiltFirstRow.domain false) (Rows.quiltFirstSpec.post enc Try.prog Try.f3 false true false false) := by
  refine returnsInHanded_of_change (C := Try.checked) own started (by kernel_rfl) Try.func3
    (ChangeSpec.witness6 (enc := enc) (C := Try.checked) false ⟨#[], #[.slice none 0 0, .slice none 0 0, .int .u8 0], []⟩ 8 (by kernel_rfl) (by kernel_rfl) (by kernel_rfl) (by kernel_rfl)) ?_
  intro W base args ds gs before hval0 hW hcnd _
  have hval : ∀ (j : Nat) t v, Try.f3.params[j]? = some t → args[j]? = some v → Value.okWide Try.prog W .any base t v := hval0
  have hW' := hW
  obtain ⟨p, q, hA0, hV, rfl, hfz, hnd⟩ := hW
  have hA : DataW.TrodAll enc Try.prog W 0 (fun _ => true) true Try.f3.params.toList args.toList ds p := hA0
  rw [Try.params3] at hA hval
  obtain ⟨v0, vs0, d0, ds0, p0, q0, hargs, rfl, rfl, h0, r0⟩ := trodAll_cons hA
  obtain ⟨v1, vs1, d1, ds1, p1, q1, rfl, rfl, rfl, h1, r1⟩ := trodAll_cons r0
  obtain ⟨v2, vs2, d2, ds2, p2, q2, rfl, rfl, rfl, h2, r2⟩ := trodAll_cons r1
  obtain ⟨rfl, rfl, rfl⟩ := trodAll_nil r2
  obtain rfl : args = #[v0, v1, v2] := by cases args; simp_all
  obtain ⟨rfl, rfl⟩ := trodVars_none hV
  obtain ⟨A0, len0, cap0, rfl⟩ := okWide_slice Try.underlying22 (hval 0 22 v0 rfl rfl)
  have k0 := h0
  have lt0 : ∀ x ∈ p0, x.block < W.heap.size := by obtain ⟨m, hm⟩ := k0; exact DataW.trod_lt m _ _ _ hm
  obtain ⟨l0, hR0, hK0⟩ := bytes_of k0
  obtain ⟨A1, len1, cap1, rfl⟩ := okWide_slice Try.underlying22 (hval 1 22 v1 rfl rfl)
  have k1 := h1
  have lt1 : ∀ x ∈ p1, x.block < W.heap.size := by obtain ⟨m, hm⟩ := k1; exact DataW.trod_lt m _ _ _ hm
  obtain ⟨l1, hR1, hK1⟩ := bytes_of k1
  obtain ⟨a2, rfl, rfl, rfl, w2⟩ := open_int Try.underlying5 (hval 2 5 v2 rfl rfl) h2
  clear hA0 hval0
  refine (first_walk _ _ _ _ a2 W hR0 hK0 hR1 hK1 (bounds_u8 w2)).mono fun e W' ⟨he, bel⟩ => ?_
  subst he
  exact ⟨_, rfl, _, _, _, [], _, [], hW', trodAll_mk1 (shut_bool Try.underlying4 _), (trodAll_cons_mk (Below.trod laidOut (by kernel_rfl) (of_decide_eq_true (by kernel_rfl)) k0 bel lt0) (trodAll_cons_mk (Below.trod laidOut (by kernel_rfl) (of_decide_eq_true (by kernel_rfl)) k1 bel lt1) (trodAll_cons_mk (shut_int Try.underlying5 w2) trodAll_mk0))), rfl, bel.frame _, fun h => by cases h⟩

theorem first_holds : Rows.QuiltFirstSaid :=
  OpenClaim.holds_of_wide 3 Try.f3 rfl rfl rfl rfl rfl rfl rfl ⟨rfl, rfl, rfl, rfl, rfl⟩ rfl rfl rfl rfl rfl (by kernel_rfl) Try.func3 (by kernel_rfl)
    (of_decide_eq_true (by kernel_rfl)) (by unfold Func.isWrapper; first | (rw [if_pos (by decide +kernel)]; kernel_rfl) | (rw [if_neg (by decide +kernel)]; exact ⟨rfl, rfl⟩))
    (fun os started H enc _ => first_lifted os started H enc)
#print axioms first_holds

end Go.Proofs.Ytpkondemkpogoaa
