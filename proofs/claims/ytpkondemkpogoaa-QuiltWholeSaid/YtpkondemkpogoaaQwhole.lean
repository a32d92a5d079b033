/-
  QuiltWhole: WHATEVER ORDER THE PIECES COME IN, ALL IS READ, ONCE: a text that is cut anywhere, its pieces coming in any order, some of them twice, is read as it was, to its end.
-/
import Derived.Test.YtpkondemkpogoaaQput1
import Derived.Test.YtpkondemkpogoaaQpcs
namespace Go.Proofs.Ytpkondemkpogoaa
open Go.RowKit
set_option linter.unusedVariables false
set_option linter.unusedSimpArgs false

theorem wpList_wanted {P : Program} {w : World} {ops : Array Oper} {rest : List Oper} {o : Oper} {a : Act} {Q : Exit → Act → World → Prop} (hw : Region.wanted o (yielded ops a.tmps) = true)
    (h : ∀ K : Act → World → Prop, (∀ a w, wpList P ops Q rest a w → K a w) → o.wp P a w K Q) : wpList P ops Q (o :: rest) a w := wpList_step fun K hK => by rw [if_pos hw]; exact h K hK
theorem wpList_append_g {P : Program} {w : World} {ops : Array Oper} {rest : List Oper} {o : Oper} {a : Act} {Q : Exit → Act → World → Prop} (hw : Region.wanted o (yielded ops a.tmps) = true) (s x : Operand) (t : TypeId)
    (ho : o.op = .call { callee := .builtin .append, args := #[s, x], argTypes := #[t, t] })
    (base : Nat) (e : TypeId) (i : TypeInfo) (z : Value) (size bytes : Nat) (ht : P.underlying t = some (.slice e)) (hi : P.info? e = some i) (hz : i.zero = some z)
    (hsize : i.size = size) (hby : i.bytes = bytes) (hzs : z.cells.size = size) (hsz : 0 < size)
    (v : Value) (n : Nat) (xs : List Value) (hs : a.eval s = v) (hown : w.ownsRow base e size v n xs)
    (A : Option Addr) (m c : Nat) (news : List Value) (hx : a.eval x = .slice A m c) (hr : RdV w size A m news) (h1 : ∀ u ∈ news, u.oneCell' = true)
    (h63 : n + m ≤ maxLen) (hbytes : (n + m) * bytes ≤ 140737488355328) (hbase : base ≤ w.heap.size) (hA : A = none → m = 0)
    (h : ∀ v' w', w'.ownsRow base e size v' (n + m) (xs ++ news) → w.grownBy w' v.ownBlock → (v'.ownBlock = v.ownBlock ∨ v'.ownBlock = some w.heap.size) → wpList P ops Q rest (a.put o.dst v') w') : wpList P ops Q (o :: rest) a w :=
  wpList_wanted hw fun _ hK => wp_append_any w s x t ho base e i z size bytes ht hi hz hsize hby hzs hsz v n xs hs hown A m c news hx hr h1 h63 hbytes hbase hA fun v' w' h2 h3 h4 => hK _ _ (h v' w' h2 h3 h4)
theorem infoPc : (Try.prog.info? 37).map (fun i => (i.zero, i.size, i.bytes)) = some (some (.agg #[.int .u64 0, .slice none 0 0, .bool false]), 3, 40) := by kernel_rfl
theorem rdv_tri (w : World) (a b c : Value) : RdV (w.alloc (.cells #[a, b, c] 37)) 3 (some ⟨w.heap.size, 0, none⟩) 1 [a, b, c] :=
  (mid_of_own (World.ownsRow_lit (size := 3) (e := 37) w #[a, b, c] 1 (Nat.le_refl _) (by decide) rfl)).rdv.1
theorem rdv_two (w : World) (a b : Value) : RdV (w.alloc (.cells #[a, b] 5)) 1 (some ⟨w.heap.size, 0, none⟩) 2 [a, b] :=
  (mid_of_own (World.ownsRow_lit (size := 1) (e := 5) w #[a, b] 2 (Nat.le_refl _) (by decide) rfl)).rdv.1
theorem slv_one {A : Option Addr} {n c : Nat} (x : Int) (e : Bool) : ∀ u ∈ [Value.int .u64 x, .slice A n c, .bool e], u.oneCell' = true := fun u hu => by
  simp at hu
  rcases hu with rfl | rfl | rfl <;> rfl
/-- A slice of the text: how it lies. -/
theorem sli3 {w : World} {A : Option Addr} {n c m k : Nat} {l : List Int} (h : RdT w (.slice A n c) l) (hm : m + k ≤ l.length) (hc : A = none → c = 0) :
    (A = none ∧ n = 0 ∧ c = 0 ∧ m = 0 ∧ k = 0 ∧ Rd w .u8 (.slice none 0 0) ((l.drop m).take k)) ∨
    (∃ b off, A = some ⟨b, off, none⟩ ∧ n = l.length ∧ n ≤ c ∧ c ≤ maxLen ∧ m < c ∧ Rd w .u8 (.slice (some ⟨b, off + m, none⟩) k (c - m)) ((l.drop m).take k)) ∨
    (∃ b off, A = some ⟨b, off, none⟩ ∧ m = n ∧ c = n ∧ k = 0 ∧ n = l.length ∧ n ≤ maxLen ∧ Rd w .u8 (.slice (some ⟨b, off, none⟩) 0 0) ((l.drop m).take k)) := by
  rcases h.shape with ⟨cz, e, h0⟩ | ⟨b, off, cp, cs, e, _, _, h1, h2⟩
  · simp only [Value.slice.injEq] at e
    obtain ⟨rfl, rfl, rfl⟩ := e
    subst h0
    simp only [List.length_nil] at hm
    obtain rfl : m = 0 := by omega
    obtain rfl : k = 0 := by omega
    exact .inl ⟨rfl, rfl, hc rfl, rfl, rfl, by simpa using Rd.nil w .u8⟩
  · simp only [Value.slice.injEq] at e
    obtain ⟨rfl, rfl, rfl⟩ := e
    rcases Nat.lt_or_ge m c with hc2 | hc2
    · refine .inr (.inl ⟨b, off, rfl, rfl, h1, h2, hc2, ?_⟩)
      exact (h.1.suf (show m ≤ l.length by omega)).pre (m := k) (by rw [List.length_drop]; omega)
    · obtain rfl : k = 0 := by omega
      refine .inr (.inr ⟨b, off, rfl, by omega, by omega, rfl, rfl, by omega, ?_⟩)
      rw [List.take_zero]
      exact h.emp.1
set_option maxHeartbeats 8000000 in
set_option maxRecDepth 100000 in
theorem whole_walk (vt vc vo : Value) (lt lc lo : List Int) (st : Int) (w : World) (hT : Rd w .u8 vt lt) (kT : BytesOk lt) (hC : Rd w .u8 vc lc) (kC : BytesOk lc) (hO : Rd w .u8 vo lo) (kO : BytesOk lo) (hst : 0 ≤ st ∧ st ≤ 255) :
    Calls Try.prog 4 #[vt, vc, vo, .int .u8 st] w fun e w' => e = .returned (.bool true) ∧ Below w.heap.size w w' := by
  obtain ⟨i0, hi0, hz0, hz1, hz2⟩ := info_parts infoB
  obtain ⟨iP, hip, hp0, hp1, hp2⟩ := info_parts infoPc
  obtain ⟨At, ct, rfl⟩ := hT.form
  obtain ⟨Ac, cc, rfl⟩ := hC.form
  obtain ⟨Ao, co, rfl⟩ := hO.form
  obtain ⟨W, hW⟩ : ∃ W, W = w.alloc (.cells #[.int .u8 st] 5) := ⟨_, rfl⟩
  obtain ⟨sc, hsc⟩ : ∃ sc, sc = w.heap.size := ⟨_, rfl⟩
  have hba : Below w.heap.size w W := by rw [hW]; exact (Below.refl _ _).alloc (Nat.le_refl _) _
  have hSC : Blk W sc 5 #[.int .u8 st] := by rw [hW, hsc]; exact Blk.new _ _ _
  have haw := awake_any W
  have htW := hT.below hba
  have hcW := hC.below hba
  have hoW := hO.below hba
  clear hT hC hO
  go_enter Try.func4, Try.ntmps4
  go_wp2_with fail
  rw [← hW, ← hsc]
  (with_reducible refine haw.mono ?_)
  rintro e w1 ⟨rfl, hB1⟩
  have hc1 := cut_any _ lt 300 w1 (htW.below hB1) (by decide)
  have HC1 := Lib.hid (hcW.below hB1)
  have HO1 := Lib.hid (hoW.below hB1)
  have HS1 := Lib.hid (hSC.same hB1)
  have HB1 := Lib.hid (hba.trans (hB1.mono hba.size))
  have HSC := Lib.hid hsc
  clear haw htW hcW hoW hSC hB1 hba hsc
  obtain ⟨text, htt⟩ : ∃ text, text = lt.take 300 := ⟨_, rfl⟩
  have hbt : BytesOk text := by rw [htt]; exact kT.take 300
  have htl : text.length ≤ 300 := by rw [htt, List.length_take]; omega
  rw [← htt] at hc1
  clear htt kT hW W
  go_wp2_with fail
  refine hc1.mono ?_
  rintro e w2 ⟨vt, rfl, ho2, hb2⟩
  obtain ⟨B, hB⟩ : ∃ B, B = w2.heap.size := ⟨_, rfl⟩
  have hT2 := rdt_of_own ho2
  obtain ⟨AT, cT, rfl⟩ := hT2.form
  have hcT : AT = none → cT = 0 := fun e => by
    subst e
    rcases ho2.2 with ⟨h1, _⟩ | ⟨g', cap', cur, h1, _⟩
    · simp only [Value.slice.injEq] at h1; exact h1.2.2
    · simp at h1
  have HT2 := Lib.hid hT2
  have HC2 := Lib.hid (HC1.out.below hb2)
  have HO2 := Lib.hid (HO1.out.below hb2)
  have HS2 := Lib.hid (HS1.out.same hb2)
  have HB2 := Lib.hid (HB1.out.trans (hb2.mono HB1.out.size))
  have hwB : w.heap.size ≤ B := by rw [hB]; exact HB2.out.size
  clear hc1 HC1 HO1 HS1 HB1 ho2 hb2 hT2
  obtain ⟨kc, hkc⟩ : ∃ kc, kc = min lc.length 20 := ⟨_, rfl⟩
  have hmn : min (lc.length : Int) 20 = (kc : Int) := by omega
  obtain ⟨-, hAc, -, hcm, hrc⟩ := ((HC2.out.alloc (.cells #[] 5)).pre (m := kc) (by omega)).rdv
  have hown0 := World.ownsRow_lit (size := 1) (e := 5) w2 #[] 0 (Nat.le_refl _) (by decide) rfl
  have hkl : kc ≤ 20 := by omega
  have hkcc : (kc : Int) ≤ (cc : Int) := by have := HC2.out.rdv; omega
  have HKC := Lib.hid hkc
  clear hkc
  obtain ⟨cs, hcs⟩ : ∃ cs, cs = lc.take kc ++ [255, 255] := ⟨_, rfl⟩
  have hcl : cs.length = kc + 2 := by rw [hcs, List.length_append, List.length_take]; have := HKC.out; simp; omega
  have hcb : BytesOk cs := by
    rw [hcs]
    intro x hx
    rcases List.mem_append.1 hx with h1 | h1
    · exact kC x (List.mem_of_mem_take h1)
    · simp at h1; subst h1; decide
  have hcm4 : (lc.take kc).map (Value.int .u8) ++ [.int .u8 255, .int .u8 255] = cs.map (Value.int .u8) := by rw [hcs, List.map_append]; rfl
  clear hcs kC
  have HCL := Lib.hid hcl
  have HCM := Lib.hid hcm4
  clear hcl hcm4
  have htok : True := trivial
  go_wp2_with (first | (at_builtin; clear htok; refine wpList_append_any _ rfl _ _ 22 rfl w2.heap.size 5 i0 _ 1 1 Try.underlying22 hi0 hz0 hz1 hz2 rfl (by decide) (.slice (some ⟨w2.heap.size, 0, none⟩) 0 0) 0 [] rfl hown0 _ _ _ _ rfl hrc (oneInts _ _) (by unfold maxLen; omega) (by omega) (by simp) hAc ?_; intro v3 w3 hown3 hgrow3 hat3; rw [Nat.zero_add, List.nil_append] at hown3; obtain ⟨A3, c3, rfl, _⟩ := sl_of_own hown3; have hb3 : Below w2.heap.size w2 w3 := ((Below.refl _ _).alloc (Nat.le_refl _) (.cells #[] 5)).grown hgrow3 (by simp) (by simp [Value.ownBlock]); have hown3a := own_same hown3 ((Below.refl w3.heap.size w3).alloc (Nat.le_refl _) (.cells #[.int .u8 255, .int .u8 255] 5)); have hb3a := hb3.trans (((Below.refl w3.heap.size w3).alloc (Nat.le_refl _) (.cells #[.int .u8 255, .int .u8 255] 5)).mono hb3.size); clear hown3 hgrow3 hat3 hown0 hrc hAc) | (at_builtin; refine wpList_append_any _ rfl _ _ 22 rfl w2.heap.size 5 i0 _ 1 1 Try.underlying22 hi0 hz0 hz1 hz2 rfl (by decide) _ kc _ rfl hown3a (some ⟨w3.heap.size, 0, none⟩) 2 2 [.int .u8 255, .int .u8 255] rfl (rdv_two w3 _ _) (oneInts .u8 [255, 255]) (by unfold maxLen; omega) (by omega) (by have := hb3a.size; exact this) (fun h => by cases h) ?_; intro v4 w4 hown4 hgrow4 hat4; have hb4 : Below w2.heap.size w2 w4 := hb3a.grown hgrow4 hb3a.size (fun m hm => (hown3a.lt m hm).1); rw [HCM.out, ← HCL.out] at hown4; have HCR := Lib.hid (rd_of_own (k := .u8) hown4); obtain ⟨AC, cC, e4⟩ := HCR.out.form; subst e4; clear hown4 hgrow4 hat4 hown3a hb3a hb3) | fail)
  clear HKC hmn HC2
  rw [← hB] at hb4
  have hs4 : B ≤ w4.heap.size := by rw [hB]; exact hb4.size
  obtain ⟨B4, hB4⟩ : ∃ B4, B4 = w4.heap.size := ⟨_, rfl⟩
  have hB44 : B ≤ B4 := by rw [hB4]; exact hs4
  have HB := Lib.hid hB
  have HB4 := Lib.hid hB4
  have hb40 : Below B4 w4 w4 := Below.refl _ _
  have hs40 : B4 ≤ w4.heap.size := by rw [hB4]; exact Nat.le_refl _
  clear hB hB4
  go_loopw [9, 10, 36] (fun s9 s10 s36 wr => ∃ (i at_ : Nat) (ps : List Pc), s36 = .int .i64 i ∧ i ≤ cs.length ∧ s10 = .int .i64 at_ ∧ at_ ≤ text.length ∧ ps.length = i ∧ wr.ownsRow B4 37 3 s9 ps.length (pcc ps) ∧ (∀ x ∈ ps, PcOk w2 text x) ∧ Cover ps at_ ∧ Below B4 w4 wr ∧ B4 ≤ wr.heap.size) (fun _ _ s36 _ => cs.length - (intOf s36).toNat)
  case atStart => exact ⟨0, 0, [], rfl, Nat.zero_le _, rfl, Nat.zero_le _, rfl, World.ownsRow_nil _ _ _ _, fun x hx => by simp at hx, fun i hi => by omega, hb40, hs40⟩
  case round =>
    clear hs40 hb40
    obtain ⟨i, at_, ps, rfl, hin, rfl, hat, hpl, hL, hok, hcv, hbr, hsr⟩ := hrel
    obtain ⟨Al, cl, rfl, hll, hlm, _⟩ := sl_of_own hL
    by_cases hi : i < cs.length
    · have hiI : (i : Int) < (cs.length : Int) := by omega
      obtain ⟨b, off, rfl, _, hc⟩ := (HCR.out.below (by rw [← HB4.out]; exact hbr)).at_ i hi
      obtain ⟨x, hx⟩ : ∃ x, x = cs.getD i 0 := ⟨_, rfl⟩
      have hxb : 0 ≤ x ∧ x ≤ 255 := by rw [hx]; exact hcb.getD i
      rw [← hx] at hc
      clear hx
      obtain ⟨n, hn⟩ : ∃ n : Nat, n = min x.toNat (text.length - at_) := ⟨_, rfl⟩
      have hmn : min x ((text.length : Int) - (at_ : Int)) = (n : Int) := by omega
      have hw1 : IntKind.i64.wrap ((text.length : Int) - (at_ : Int)) = (text.length : Int) - (at_ : Int) := Go.IntWalk.i64_in _ (by omega)
      have hw2 : IntKind.i64.wrap ((at_ : Int) + (n : Int)) = (at_ : Int) + (n : Int) := Go.IntWalk.i64_in _ (by omega)
      have hw3 : IntKind.u64.wrap (at_ : Int) = (at_ : Int) := Go.IntWalk.u64_in _ (by omega)
      have hnl : at_ + n ≤ text.length := by omega
      have HN := Lib.hid hn
      have HI := Lib.hid hi
      have HL := Lib.hid hL
      have HOK := Lib.hid hok
      have HCV := Lib.hid hcv
      have HPL := Lib.hid hpl
      have hpl2 : ps.length ≤ 22 := by have := HCL.out; omega
      have hcs22 : (cs.length : Int) ≤ 22 := by have := HCL.out; omega
      clear hn hi hL hok hcv hpl
      rcases sli3 (m := at_) (k := n) HT2.out hnl hcT with ⟨rfl, e1, rfl, rfl, rfl, hrd⟩ | ⟨bt, ot, rfl, _, hcl1, hcl2, hcl3, hrd⟩ | ⟨bt, ot, rfl, e1, rfl, rfl, _, _, hrd⟩
      · have HRD := Lib.hid hrd
        have hmz : min x (text.length : Int) = 0 := by omega
        clear e1
        clear hrd
        go_wp2_with (first | (at_builtin; (refine wpList_append_any _ rfl _ _ 35 rfl B4 37 iP _ 3 40 Try.underlying35 hip hp0 hp1 hp2 rfl (by decide) (.slice Al ps.length cl) ps.length (pcc ps) rfl (own_same HL.out ((Below.refl wr.heap.size wr).alloc (Nat.le_refl _) _)) (some ⟨wr.heap.size, 0, none⟩) 1 1 [.int .u64 (0), .slice none 0 0, .bool false] rfl (rdv_tri wr _ _ _) (slv_one _ _) (by unfold maxLen; omega) (by omega) (by simp; omega) (fun h => by cases h) ?_; intro v5 w5 hown5 hgrow5 hat5)) | fail)
        have hownF : w5.ownsRow B4 37 3 v5 (ps ++ [Pc.mk 0 0 (.slice none 0 0) false]).length (pcc (ps ++ [Pc.mk 0 0 (.slice none 0 0) false])) := by rw [List.length_append, pcc_app]; exact hown5
        have hbF : Below B4 w4 w5 := (hbr.trans (((Below.refl wr.heap.size wr).alloc (Nat.le_refl _) _).mono hsr)).grown hgrow5 (by simp; omega) (fun m hm => (HL.out.lt m hm).1)
        have hsF : B4 ≤ w5.heap.size := by have := hgrow5.size; simp at this; omega
        go_roundw
        case rel => exact ⟨i + 1, 0 + 0, ps ++ [Pc.mk 0 0 (.slice none 0 0) false], by go_num, HI.out, by go_num, hnl, by rw [List.length_append, HPL.out]; rfl, hownF, fun x hx => (List.mem_append.1 hx).elim (HOK.out x) (fun h => by obtain rfl := List.mem_singleton.1 h; exact pc_rd HRD.out rfl rfl _ hnl (fun h => by cases h)), HCV.out.app rfl, hbF, hsF⟩
        case measure => have := HI.out; simp [intOf]; omega
      · have HRD := Lib.hid hrd
        have hq1 : (at_ : Int) < (cT : Int) := by omega
        have hq2 : (at_ : Int) + (n : Int) ≤ (cT : Int) := by omega
        clear hrd
        go_wp2_with (first | (at_builtin; (refine wpList_append_any _ rfl _ _ 35 rfl B4 37 iP _ 3 40 Try.underlying35 hip hp0 hp1 hp2 rfl (by decide) (.slice Al ps.length cl) ps.length (pcc ps) rfl (own_same HL.out ((Below.refl wr.heap.size wr).alloc (Nat.le_refl _) _)) (some ⟨wr.heap.size, 0, none⟩) 1 1 [.int .u64 (at_ : Int), .slice (some ⟨bt, ot + at_, none⟩) n (cT - at_), .bool false] rfl (rdv_tri wr _ _ _) (slv_one _ _) (by unfold maxLen; omega) (by omega) (by simp; omega) (fun h => by cases h) ?_; intro v5 w5 hown5 hgrow5 hat5)) | fail)
        have hownF : w5.ownsRow B4 37 3 v5 (ps ++ [Pc.mk at_ n (.slice (some ⟨bt, ot + at_, none⟩) n (cT - at_)) false]).length (pcc (ps ++ [Pc.mk at_ n (.slice (some ⟨bt, ot + at_, none⟩) n (cT - at_)) false])) := by rw [List.length_append, pcc_app]; exact hown5
        have hbF : Below B4 w4 w5 := (hbr.trans (((Below.refl wr.heap.size wr).alloc (Nat.le_refl _) _).mono hsr)).grown hgrow5 (by simp; omega) (fun m hm => (HL.out.lt m hm).1)
        have hsF : B4 ≤ w5.heap.size := by have := hgrow5.size; simp at this; omega
        go_roundw
        case rel => exact ⟨i + 1, at_ + n, ps ++ [Pc.mk at_ n (.slice (some ⟨bt, ot + at_, none⟩) n (cT - at_)) false], by go_num, HI.out, by go_num, hnl, by rw [List.length_append, HPL.out]; rfl, hownF, fun x hx => (List.mem_append.1 hx).elim (HOK.out x) (fun h => by obtain rfl := List.mem_singleton.1 h; exact pc_rd HRD.out rfl rfl _ hnl (fun h => by cases h)), HCV.out.app rfl, hbF, hsF⟩
        case measure => have := HI.out; simp [intOf]; omega
      · have HRD := Lib.hid hrd
        subst e1
        have hmz : min x 0 = 0 := by omega
        clear hrd
        go_wp2_with (first | (at_builtin; (refine wpList_append_any _ rfl _ _ 35 rfl B4 37 iP _ 3 40 Try.underlying35 hip hp0 hp1 hp2 rfl (by decide) (.slice Al ps.length cl) ps.length (pcc ps) rfl (own_same HL.out ((Below.refl wr.heap.size wr).alloc (Nat.le_refl _) _)) (some ⟨wr.heap.size, 0, none⟩) 1 1 [.int .u64 (text.length : Int), .slice (some ⟨bt, ot, none⟩) 0 0, .bool false] rfl (rdv_tri wr _ _ _) (slv_one _ _) (by unfold maxLen; omega) (by omega) (by simp; omega) (fun h => by cases h) ?_; intro v5 w5 hown5 hgrow5 hat5)) | fail)
        have hownF : w5.ownsRow B4 37 3 v5 (ps ++ [Pc.mk text.length 0 (.slice (some ⟨bt, ot, none⟩) 0 0) false]).length (pcc (ps ++ [Pc.mk text.length 0 (.slice (some ⟨bt, ot, none⟩) 0 0) false])) := by rw [List.length_append, pcc_app]; exact hown5
        have hbF : Below B4 w4 w5 := (hbr.trans (((Below.refl wr.heap.size wr).alloc (Nat.le_refl _) _).mono hsr)).grown hgrow5 (by simp; omega) (fun m hm => (HL.out.lt m hm).1)
        have hsF : B4 ≤ w5.heap.size := by have := hgrow5.size; simp at this; omega
        go_roundw
        case rel => exact ⟨i + 1, text.length + 0, ps ++ [Pc.mk text.length 0 (.slice (some ⟨bt, ot, none⟩) 0 0) false], by go_num, HI.out, by go_num, hnl, by rw [List.length_append, HPL.out]; rfl, hownF, fun x hx => (List.mem_append.1 hx).elim (HOK.out x) (fun h => by obtain rfl := List.mem_singleton.1 h; exact pc_rd HRD.out rfl rfl _ hnl (fun h => by cases h)), HCV.out.app rfl, hbF, hsF⟩
        case measure => have := HI.out; simp [intOf]; omega
    · have hiI : ¬ (i : Int) < (cs.length : Int) := by omega
      obtain ⟨n, hn⟩ : ∃ n : Nat, n = text.length - at_ := ⟨_, rfl⟩
      have hnl : at_ + n ≤ text.length := by omega
      have hnn : at_ + n = text.length := by omega
      have hw1 : (text.length : Int) - (at_ : Int) = (n : Int) := by omega
      have hw3 : IntKind.u64.wrap (at_ : Int) = (at_ : Int) := Go.IntWalk.u64_in _ (by omega)
      have hpl2 : ps.length ≤ 22 := by have := HCL.out; omega
      have HL := Lib.hid hL
      have HOK := Lib.hid hok
      have HCV := Lib.hid hcv
      have HNN := Lib.hid hnn
      have hsub : text.length - at_ = n := hn.symm
      clear hn hL hok hcv hpl hin hi hnn
      go_upto_region 13 with (fail)
      go_cut [9] from 63 (fun s9 wx => ∃ (A2 : Option Addr) (c2 : Nat) (qs : List Pc) (y : Pc), s9 = .slice A2 (qs ++ [y]).length c2 ∧ wx.ownsRow B4 37 3 (.slice A2 (qs ++ [y]).length c2) (qs ++ [y]).length (pcc (qs ++ [y])) ∧ (∀ x ∈ qs ++ [y], PcOk w2 text x) ∧ Cover (qs ++ [y]) text.length ∧ y.e = true ∧ (qs ++ [y]).length ≤ 23 ∧ Below B4 w4 wx ∧ B4 ≤ wx.heap.size)
      case first =>
        rcases sli3 (m := at_) (k := n) HT2.out hnl hcT with ⟨rfl, e1, rfl, rfl, rfl, hrd⟩ | ⟨bt, ot, rfl, _, hcl1, hcl2, hcl3, hrd⟩ | ⟨bt, ot, rfl, e1, rfl, rfl, _, _, hrd⟩
        · have HRD := Lib.hid hrd
          have hz : (text.length : Int) = 0 := by omega
          clear e1
          clear hrd
          go_wp2_with (first | (at_builtin; (refine wpList_append_any _ rfl _ _ 35 rfl B4 37 iP _ 3 40 Try.underlying35 hip hp0 hp1 hp2 rfl (by decide) (.slice Al ps.length cl) ps.length (pcc ps) rfl (own_same HL.out ((Below.refl wr.heap.size wr).alloc (Nat.le_refl _) _)) (some ⟨wr.heap.size, 0, none⟩) 1 1 [.int .u64 (0), .slice none 0 0, .bool true] rfl (rdv_tri wr _ _ _) (slv_one _ _) (by unfold maxLen; omega) (by omega) (by simp; omega) (fun h => by cases h) ?_; intro v5 w5 hown5 hgrow5 hat5)) | fail)
          have hownF : w5.ownsRow B4 37 3 v5 (ps ++ [Pc.mk 0 0 (.slice none 0 0) true]).length (pcc (ps ++ [Pc.mk 0 0 (.slice none 0 0) true])) := by rw [List.length_append, pcc_app]; exact hown5
          have hbF : Below B4 w4 w5 := (hbr.trans (((Below.refl wr.heap.size wr).alloc (Nat.le_refl _) _).mono hsr)).grown hgrow5 (by simp; omega) (fun m hm => (HL.out.lt m hm).1)
          have hsF : B4 ≤ w5.heap.size := by have := hgrow5.size; simp at this; omega
          obtain ⟨A5, c5, e5, _⟩ := sl_of_own hownF
          rw [e5] at hownF ⊢
          go_meet
          case rel => exact ⟨A5, c5, ps, Pc.mk 0 0 (.slice none 0 0) true, rfl, hownF, fun x hx => (List.mem_append.1 hx).elim (HOK.out x) (fun h => by obtain rfl := List.mem_singleton.1 h; exact pc_rd HRD.out rfl rfl _ hnl (fun _ => HNN.out)), by rw [← HNN.out]; exact HCV.out.app rfl, rfl, by rw [List.length_append]; exact Nat.succ_le_succ hpl2, hbF, hsF⟩
        · have HRD := Lib.hid hrd
          have hq1 : (at_ : Int) < (cT : Int) := by omega
          have hq2 : (at_ : Int) ≤ (text.length : Int) := by omega
          have hq3 : (text.length : Int) ≤ (cT : Int) := by omega
          clear hrd
          go_wp2_with (first | (at_builtin; (refine wpList_append_any _ rfl _ _ 35 rfl B4 37 iP _ 3 40 Try.underlying35 hip hp0 hp1 hp2 rfl (by decide) (.slice Al ps.length cl) ps.length (pcc ps) rfl (own_same HL.out ((Below.refl wr.heap.size wr).alloc (Nat.le_refl _) _)) (some ⟨wr.heap.size, 0, none⟩) 1 1 [.int .u64 (at_ : Int), .slice (some ⟨bt, ot + at_, none⟩) n (cT - at_), .bool true] rfl (rdv_tri wr _ _ _) (slv_one _ _) (by unfold maxLen; omega) (by omega) (by simp; omega) (fun h => by cases h) ?_; intro v5 w5 hown5 hgrow5 hat5)) | fail)
          have hownF : w5.ownsRow B4 37 3 v5 (ps ++ [Pc.mk at_ n (.slice (some ⟨bt, ot + at_, none⟩) n (cT - at_)) true]).length (pcc (ps ++ [Pc.mk at_ n (.slice (some ⟨bt, ot + at_, none⟩) n (cT - at_)) true])) := by rw [List.length_append, pcc_app]; exact hown5
          have hbF : Below B4 w4 w5 := (hbr.trans (((Below.refl wr.heap.size wr).alloc (Nat.le_refl _) _).mono hsr)).grown hgrow5 (by simp; omega) (fun m hm => (HL.out.lt m hm).1)
          have hsF : B4 ≤ w5.heap.size := by have := hgrow5.size; simp at this; omega
          obtain ⟨A5, c5, e5, _⟩ := sl_of_own hownF
          rw [e5] at hownF ⊢
          go_meet
          case rel => exact ⟨A5, c5, ps, Pc.mk at_ n (.slice (some ⟨bt, ot + at_, none⟩) n (cT - at_)) true, rfl, hownF, fun x hx => (List.mem_append.1 hx).elim (HOK.out x) (fun h => by obtain rfl := List.mem_singleton.1 h; exact pc_rd HRD.out rfl rfl _ hnl (fun _ => HNN.out)), by rw [← HNN.out]; exact HCV.out.app rfl, rfl, by rw [List.length_append]; exact Nat.succ_le_succ hpl2, hbF, hsF⟩
        · have HRD := Lib.hid hrd
          subst e1
          clear hrd
          go_wp2_with (first | (at_builtin; (refine wpList_append_any _ rfl _ _ 35 rfl B4 37 iP _ 3 40 Try.underlying35 hip hp0 hp1 hp2 rfl (by decide) (.slice Al ps.length cl) ps.length (pcc ps) rfl (own_same HL.out ((Below.refl wr.heap.size wr).alloc (Nat.le_refl _) _)) (some ⟨wr.heap.size, 0, none⟩) 1 1 [.int .u64 (text.length : Int), .slice (some ⟨bt, ot, none⟩) 0 0, .bool true] rfl (rdv_tri wr _ _ _) (slv_one _ _) (by unfold maxLen; omega) (by omega) (by simp; omega) (fun h => by cases h) ?_; intro v5 w5 hown5 hgrow5 hat5)) | fail)
          have hownF : w5.ownsRow B4 37 3 v5 (ps ++ [Pc.mk text.length 0 (.slice (some ⟨bt, ot, none⟩) 0 0) true]).length (pcc (ps ++ [Pc.mk text.length 0 (.slice (some ⟨bt, ot, none⟩) 0 0) true])) := by rw [List.length_append, pcc_app]; exact hown5
          have hbF : Below B4 w4 w5 := (hbr.trans (((Below.refl wr.heap.size wr).alloc (Nat.le_refl _) _).mono hsr)).grown hgrow5 (by simp; omega) (fun m hm => (HL.out.lt m hm).1)
          have hsF : B4 ≤ w5.heap.size := by have := hgrow5.size; simp at this; omega
          obtain ⟨A5, c5, e5, _⟩ := sl_of_own hownF
          rw [e5] at hownF ⊢
          go_meet
          case rel => exact ⟨A5, c5, ps, Pc.mk text.length 0 (.slice (some ⟨bt, ot, none⟩) 0 0) true, rfl, hownF, fun x hx => (List.mem_append.1 hx).elim (HOK.out x) (fun h => by obtain rfl := List.mem_singleton.1 h; exact pc_rd HRD.out rfl rfl _ hnl (fun _ => HNN.out)), by rw [← HNN.out]; exact HCV.out.app rfl, rfl, by rw [List.length_append]; exact Nat.succ_le_succ hpl2, hbF, hsF⟩
      case rest =>
        clear hbr hsr HL HOK HCV HNN hsub hw1 hw3 hiI hpl2 hat hll hlm hnl
        obtain ⟨A2, c2, qs, y, rfl, hL, hok, hcv, hye, hql, hbr, hsr⟩ := hcut
        obtain ⟨L, hLL⟩ : ∃ L, L = qs ++ [y] := ⟨_, rfl⟩
        have hl0 : 0 < L.length := by rw [hLL]; simp
        have hlast : ∀ (i : Nat) (h : i < L.length), i + 1 = L.length → L[i].e = true := by
          subst hLL
          intro i h e
          have e2 : i = qs.length := by simp at e; omega
          subst e2
          simp [hye]
        rw [← hLL] at hL hok hcv hql ⊢
        clear hLL hye qs y
        have HL := Lib.hid hL
        have HOK := Lib.hid hok
        have HCV := Lib.hid hcv
        have HLA := Lib.hid hlast
        have HBR := Lib.hid hbr
        clear hL hok hcv hlast hbr
        have hnw := new_lawP (fun b => (Value.slice none 0 0).ownBlock ≠ some b) (wc.alloc (.cells #[.slice none 0 0] 22))
        obtain ⟨gc, hgc⟩ : ∃ gc, gc = wc.heap.size := ⟨_, rfl⟩
        have hba : Below wc.heap.size wc (wc.alloc (.cells #[.slice none 0 0] 22)) := (Below.refl _ _).alloc (Nat.le_refl _) _
        have hBG : Blk (wc.alloc (.cells #[.slice none 0 0] 22)) gc 22 #[.slice none 0 0] := by rw [hgc]; exact Blk.new _ _ _
        have HGC := Lib.hid hgc
        clear hgc
        go_wp2_with fail
        (with_reducible refine hnw.mono ?_)
        rintro e w5 ⟨rfl, hQ5, hb5⟩
        have hbq : Below w5.heap.size w5 (w5.alloc (.cells #[.pointer (some ⟨wc.heap.size + 1, 0, none⟩)] 25)) := (Below.refl _ _).alloc (Nat.le_refl _) _
        have hBQ : Blk (w5.alloc (.cells #[.pointer (some ⟨wc.heap.size + 1, 0, none⟩)] 25)) w5.heap.size 25 #[.pointer (some ⟨wc.heap.size + 1, 0, none⟩)] := Blk.new _ _ _
        have hBG6 := (hBG.same hb5).same hbq
        have hQ6 := hQ5.below hbq
        have hb6 := hba.trans ((hb5.mono hba.size).trans (hbq.mono (Nat.le_trans hba.size hb5.size)))
        clear hnw hb5 hba hbq hBG hQ5
        go_upto_block 2 with (fail)
        obtain ⟨W6, hW6⟩ : ∃ W6, W6 = w5.alloc (.cells #[.pointer (some ⟨wc.heap.size + 1, 0, none⟩)] 25) := ⟨_, rfl⟩
        obtain ⟨qc, hqc⟩ : ∃ qc, qc = w5.heap.size := ⟨_, rfl⟩
        have hgz : (wc.alloc (.cells #[.slice none 0 0] 22)).heap.size = wc.heap.size + 1 := by simp
        rw [hgz] at hQ6
        rw [← hW6] at hBQ hBG6 hQ6 hb6 ⊢
        rw [← hqc] at hBQ ⊢
        obtain ⟨g, hg⟩ : ∃ g, g = wc.heap.size + 1 := ⟨_, rfl⟩
        rw [← hg] at hBQ hQ6
        have hBw : B ≤ wc.heap.size := Nat.le_trans hB44 hsr
        have hSt : St B w2 text qc gc g (.slice none 0 0) W6 Q.new := ⟨hBQ, hBG6, World.ownsRow_nil _ _ _ _, hQ6.base (by omega), WI.new text, (hb4.trans (HBR.out.mono hB44)).trans (hb6.mono hBw), Nat.le_trans hBw hb6.size, by rw [HGC.out]; exact hBw⟩
        have hL6 := own_same HL.out hb6
        rw [← HGC.out]
        clear hg hgz hqc hW6 hBQ hBG6 hQ6 hb6 HL hb4 HBR
        clear hcm hkcc
        go_wp2_with fail
        go_loopw [76] (fun s76 wr => ∃ (i : Nat) (q : Q) (gv : Value) (ks : List Int), s76 = .int .i64 i ∧ i ≤ lo.length ∧ St B w2 text qc gc g gv wr q ∧ wr.ownsRow B4 37 3 (.slice A2 L.length c2) L.length (pcc L) ∧ Came q ks ∧ InT text ks ∧ hld q.L ≤ 300 * min i 30) (fun s76 _ => lo.length - (intOf s76).toNat)
        case atStart => exact ⟨0, Q.new, _, [], rfl, Nat.zero_le _, hSt, hL6, came_new, fun n hn => by simp at hn, by decide⟩
        case round =>
          clear hSt hL6
          obtain ⟨i, q, gv, ks, rfl, hin, hS, hL, hC, hI, hh⟩ := hrel
          by_cases hi : i < lo.length
          · have hiI : (i : Int) < (lo.length : Int) := by omega
            by_cases h30 : i < 30
            · have h30I : (i : Int) < 30 := by omega
              have hbeW : Below w2.heap.size w2 wr := by rw [← HB.out]; exact hS.be
              obtain ⟨bo, fo, rfl, _, hco⟩ := (HO2.out.below hbeW).at_ i hi
              obtain ⟨x, hx⟩ : ∃ x, x = lo.getD i 0 := ⟨_, rfl⟩
              have hxb : 0 ≤ x ∧ x ≤ 255 := by rw [hx]; exact kO.getD i
              rw [← hx] at hco
              clear hx
              obtain ⟨k, hk⟩ : ∃ k : Nat, (k : Int) = x % (L.length : Int) := ⟨(x % (L.length : Int)).toNat, by have := Int.emod_nonneg x (show (L.length : Int) ≠ 0 by omega); omega⟩
              have hkL : k < L.length := by have := Int.emod_lt_of_pos x (show (0 : Int) < L.length by omega); omega
              have hkLI : (k : Int) < (L.length : Int) := by omega
              have htm : x.tmod (L.length : Int) = (k : Int) := by rw [Int.tmod_eq_emod_of_nonneg hxb.1, hk]
              have hLz : ¬ (L.length : Int) = 0 := by omega
              obtain ⟨b2, f2, rfl, d0, d1, d2⟩ := pc_at hL k hkL
              have hyok := HOK.out L[k] (List.getElem_mem hkL)
              obtain ⟨y, hy⟩ : ∃ y, y = L[k] := ⟨_, rfl⟩
              rw [← hy] at d0 d1 d2 hyok
              clear hy hk
              obtain ⟨Ay, cy, hyv⟩ := hyok.rd.form
              rw [stp_len hyok] at hyv
              have hcl := put_cl B w2 text qc gc g gv wr q sc st y.off y.n y.v y.e hS HB.out HS2.out hst (by omega) hbt htl hyok.fit hyok.en (hyok.rd.below hbeW)
              have hhF : hld (stp text q y (1 + st)).L ≤ 300 * min (i + 1) 30 := by have := hld_stp (m := 1 + st) hS.wi hbt htl hyok; omega
              have HW := Lib.hid hS.wi
              have HHF := Lib.hid hhF
              clear hhF
              have HL := Lib.hid hL
              have HC := Lib.hid hC
              have HI := Lib.hid hI
              have HY := Lib.hid hyok
              have HCL2 := Lib.hid hcl
              clear hS hL hC hI hyok hcl hbeW
              obtain ⟨yo, yn, yv, ye⟩ := y
              simp only at hyv d0 d1 d2
              subst hyv
              go_wp2_with (first | (go_at_call 15; refine HCL2.out.mono ?_; rintro e w7 ⟨rfl, gv7, hS7, hK7⟩) | fail)
              go_roundw
              case rel => exact ⟨i + 1, _, gv7, ks ++ rng _, by go_num, by omega, hS7, own_p HL.out hK7, came_stp HW.out hbt htl HC.out HY.out, HI.out.app HY.out.fit, HHF.out⟩
              case measure => simp [intOf]; omega
            · have h30I : ¬ (i : Int) < 30 := by omega
              have hbeW : Below w2.heap.size w2 wr := by rw [← HB.out]; exact hS.be
              obtain ⟨bo, fo, rfl, _, hco⟩ := (HO2.out.below hbeW).at_ i hi
              have hloM : (lo.length : Int) ≤ 9223372036854775807 := by have h1 := (HO2.out.rdv).2.2; unfold maxLen at h1; omega
              clear hbeW
              have HL := Lib.hid hL
              have HSx := Lib.hid hS
              clear hL hS
              go_wp2_with fail
              go_roundw
              case rel => exact ⟨i + 1, q, gv, ks, by go_num, by omega, HSx.out, HL.out, hC, hI, by omega⟩
              case measure => simp [intOf]; omega
          · have hiI : ¬ (i : Int) < (lo.length : Int) := by omega
            have HSx := Lib.hid hS
            have HL := Lib.hid hL
            have hh0 : hld q.L ≤ 9000 := by omega
            clear hS hL hh hin hi
            obtain ⟨q0, hq0⟩ : ∃ q0, q0 = q := ⟨_, rfl⟩
            rw [← hq0] at HSx hC hh0
            clear hq0
            go_wp2_with fail
            go_loopw [19] (fun s19 wr => ∃ (m : Nat) (z : Int) (q : Q) (gv : Value) (ks : List Int), s19 = .int .i64 z ∧ z = (m : Int) - 1 ∧ m ≤ L.length ∧ St B w2 text qc gc g gv wr q ∧ wr.ownsRow B4 37 3 (.slice A2 L.length c2) L.length (pcc L) ∧ Came q ks ∧ InT text ks ∧ hld q.L ≤ 9000 + 300 * (L.length - m) ∧ AllC L m ks ∧ (m < L.length → q.kn = true)) (fun s19 _ => (intOf s19 + 1).toNat)
            case atStart => exact ⟨L.length, _, q0, gv, ks, rfl, rfl, Nat.le_refl _, HSx.out, HL.out, hC, hI, by omega, fun i hi hm => by omega, fun h => by omega⟩
            case round =>
              clear HSx HL hC hI hh0
              obtain ⟨m, z, q, gv, ks, rfl, hz, hmL, hS, hL, hC, hI, hh, hA, hkn⟩ := hrel
              rcases m with _ | k
              · obtain rfl : z = -1 := by omega
                clear hz
                obtain ⟨hd, hh0, htx⟩ := hS.wi.end_ htl (hkn hl0) (all_came hC HCV.out hA hI)
                have hbeB := hS.be
                obtain ⟨Ag, cg, rfl, _⟩ := sl_of_own hS.own
                obtain ⟨n0, hn0⟩ : ∃ n0, n0 = q.rd.toNat := ⟨_, rfl⟩
                have hw1 := hS.wi.take 1000
                have hgl := (hS.wi.i.take 1000).2.2.1
                have htk := take_lawP _ B g q 1000 wr hS.qp hS.wi.i (by omega) hS.sz (by decide)
                rw [hd] at htk
                have hbq := hS.bq
                have hbg := hS.bg
                have hown := hS.own
                have hrd := hS.wi.rd
                rw [← hn0] at hown htx hbg htk
                have hglen : ((q.got 1000).map (Value.int .u8)).length = q.n 1000 := by rw [List.length_map, hgl]
                have htxl : n0 + (q.got 1000).length = text.length := by
                  have := congrArg List.length htx
                  rw [List.length_append, List.length_take] at this
                  omega
                have htxm : (text.take n0).map (Value.int .u8) ++ (q.got 1000).map (Value.int .u8) = text.map (Value.int .u8) := by rw [← List.map_append, htx]
                have c0 : wr.cell? ⟨qc, 0, none⟩ = some (.pointer (some ⟨g, 0, none⟩)) := hbq.cell 0
                have hsz := hS.sz
                have HTK := Lib.hid htk
                have HQI := Lib.hid hw1.1.i
                have HHZ := Lib.hid hh0
                have HDN := Lib.hid hd
                have HTL := Lib.hid htxl
                have HTM := Lib.hid htxm
                have HGL := Lib.hid hgl
                clear hS hL hC hI hh hA hkn htk hw1 hh0 hd htx htxl htxm hgl hglen hn0 hrd hmL
                go_wp2_with fail
                (with_reducible refine HTK.out.mono ?_)
                rintro e w8 ⟨gb, rfl, hQ8, ho8, hb8, hk8, _⟩
                have hbq8 := hk8 _ _ _ hbq (by decide) (by decide)
                have hbg8 := hk8 _ _ _ hbg (by decide) (by decide)
                have hown8 := own_keep hown hk8 (by decide) (by decide)
                have hs8 : B ≤ w8.heap.size := Nat.le_trans hsz hb8.size
                rw [← HGL.out] at ho8
                have hr8 := rd_of_own (k := .u8) ho8
                obtain ⟨Ab, cb, rfl⟩ := hr8.form
                obtain ⟨_, hA8, _, _, hrv8⟩ := hr8.rdv
                have hbel8 := hbeB.trans hb8
                have e0 : w8.cell? ⟨gc, 0, none⟩ = some (.slice Ag n0 cg) := hbg8.cell 0
                have hgl2 : n0 + (q.got 1000).length ≤ 300 := by have := HTL.out; omega
                clear HTK hb8 hk8 ho8 hr8 hown hbq hbg c0 hbeB
                have hrow : ∀ m, (Value.slice Ag n0 cg).ownBlock = some m → ∃ t cs, Blk w8 m t cs ∧ t ≠ 63 ∧ t ≠ 66 := fun m hm => by
                  rcases hown8.2 with ⟨h1, _⟩ | ⟨g', cap', cur, h1, _, h2, _⟩
                  · rw [h1] at hm; simp [Value.ownBlock] at hm
                  · rw [h1] at hm
                    simp only [Value.ownBlock, Option.some.injEq] at hm
                    subst hm
                    exact ⟨5, cur, h2, by decide, by decide⟩
                go_wp2_with (first | (at_builtin; (refine wpList_append_g (by rfl) _ _ 22 rfl B 5 i0 _ 1 1 Try.underlying22 hi0 hz0 hz1 hz2 rfl (by decide) (.slice Ag n0 cg) n0 ((text.take n0).map (Value.int .u8)) rfl hown8 Ab (q.got 1000).length cb ((q.got 1000).map (Value.int .u8)) rfl hrv8 (oneInts _ _) (by unfold maxLen; omega) (by omega) hs8 hA8 ?_; intro v10 w10 hown10 hgrow10 hat10; have hQ10 := (QP.row hQ8 hgrow10 (fun m hm h => h hm) hrow).qa; have hbq10 := hbq8.grown hgrow10 (fun e => own_blk_ne hown8 hbq8 (by decide) e.symm); have hbel10 := hbel8.grown hgrow10 hs8 (fun m hm => (hown8.lt m hm).1); have hs10 : B ≤ w10.heap.size := Nat.le_trans hs8 hgrow10.size; rw [HTM.out, HTL.out] at hown10; obtain ⟨A10, c10, e10, _⟩ := sl_of_own hown10; subst e10; have k10 : w10.cell? ⟨qc, 0, none⟩ = some (.pointer (some ⟨g, 0, none⟩)) := hbq10.cell 0; clear hown8 hbq8 hbg8 hQ8 hgrow10 hat10 hrow hbel8 hs8 hrv8 hA8 e0)) | fail)
                have hrd10 := rd_of_own (k := .u8) hown10
                have hrt10 := HT2.out.1.below (show Below w2.heap.size w2 w10 by rw [← HB.out]; exact hbel10)
                have hsm := same_yes _ _ _ w10 hrd10 hrt10
                have h16 := held_law hQ10 HQI.out
                rw [HHZ.out] at h16
                have h17 := fun (w' : World) (hb : Below w10.heap.size w10 w') => done_law (hQ10.below hb)
                rw [HDN.out] at h17
                clear hown10 hrd10 hrt10 hQ10
                (with_reducible refine hsm.mono ?_)
                rintro e w11 ⟨rfl, rfl⟩
                go_wp2_with fail
                (with_reducible refine h16.mono ?_)
                rintro e w12 ⟨rfl, hb12⟩
                have k12 : w12.cell? ⟨qc, 0, none⟩ = some (.pointer (some ⟨g, 0, none⟩)) := (hbq10.same hb12).cell 0
                have h18 := h17 w12 hb12
                have hend := HB2.out.trans ((hbel10.trans (hb12.mono hs10)).mono hwB)
                have hz12 := Nat.le_trans hs10 hb12.size
                clear h17 h16 hsm hbel10 hb12
                go_wp2_with fail
                (with_reducible refine h18.mono ?_)
                rintro e w13 ⟨rfl, hb13⟩
                go_wp2_with fail
                go_ret
                exact ⟨rfl, hend.trans (hb13.mono (Nat.le_trans hwB hz12))⟩
              · obtain rfl : z = (k : Int) := by omega
                have hkL : k < L.length := by omega
                have hkLI : (k : Int) < (L.length : Int) := by omega
                have hk23 : (k : Int) < 23 := by omega
                have hbeW : Below w2.heap.size w2 wr := by rw [← HB.out]; exact hS.be
                obtain ⟨b2, f2, rfl, d0, d1, d2⟩ := pc_at hL k hkL
                have hyok := HOK.out L[k] (List.getElem_mem hkL)
                have hA2 := hA.step hkL
                have hke : q.kn = true ∨ L[k].e = true := by
                  by_cases e : k + 1 = L.length
                  · exact .inr (HLA.out k hkL e)
                  · exact .inl (hkn (by omega))
                obtain ⟨y, hy⟩ : ∃ y, y = L[k] := ⟨_, rfl⟩
                rw [← hy] at d0 d1 d2 hyok hA2 hke
                clear hy hz
                obtain ⟨Ay, cy, hyv⟩ := hyok.rd.form
                rw [stp_len hyok] at hyv
                have hcl := put_cl B w2 text qc gc g gv wr q sc st y.off y.n y.v y.e hS HB.out HS2.out hst (by omega) hbt htl hyok.fit hyok.en (hyok.rd.below hbeW)
                have hhF : hld (stp text q y (1 + st)).L ≤ 9000 + 300 * (L.length - k) := by have := hld_stp (m := 1 + st) hS.wi hbt htl hyok; omega
                have hkF : (stp text q y (1 + st)).kn = true := kn_stp hS.wi htl hyok hke
                have HW := Lib.hid hS.wi
                have HHF := Lib.hid hhF
                have HKF := Lib.hid hkF
                have HA2 := Lib.hid hA2
                have HL := Lib.hid hL
                have HC := Lib.hid hC
                have HI := Lib.hid hI
                have HY := Lib.hid hyok
                have HCL2 := Lib.hid hcl
                clear hS hL hC hI hyok hcl hbeW hhF hkF hA2 hke hA hkn hh
                obtain ⟨yo, yn, yv, ye⟩ := y
                simp only at hyv d0 d1 d2
                subst hyv
                go_wp2_with (first | (go_at_call 15; refine HCL2.out.mono ?_; rintro e w7 ⟨rfl, gv7, hS7, hK7⟩) | fail)
                go_roundw
                case rel => exact ⟨k, _, _, gv7, ks ++ rng _, by go_num, rfl, by omega, hS7, own_p HL.out hK7, came_stp HW.out hbt htl HC.out HY.out, HI.out.app HY.out.fit, HHF.out, HA2.out, fun _ => HKF.out⟩
                case measure => simp [intOf]
open Go.ChangeShapes Go.WideShapes Go.ChangeAt
set_option maxRecDepth 100000 in
theorem whole_lifted (os : Os) (started : os.Started) (H : Type) (enc : TypeId × Value → H) :
    ReturnsInHanded {} Try.checked os 4 .any (Rows.quiltWholeSpec.pre6 enc Try.prog Try.f4 Rows.quiltWholeRow.domain false) (Rows.quiltWholeSpec.post enc Try.prog Try.f4 false true false false) := by
  refine returnsInHanded_of_change (C := Try.checked) own started (by kernel_rfl) Try.func4
    (ChangeSpec.witness6 (enc := enc) (C := Try.checked) false ⟨#[], #[.slice none 0 0, .slice none 0 0, .slice none 0 0, .int .u8 0], []⟩ 8 (by kernel_rfl) (by kernel_rfl) (by kernel_rfl) (by kernel_rfl)) ?_
  intro W base args ds gs before hval0 hW hcnd _
  have hval : ∀ (j : Nat) t v, Try.f4.params[j]? = some t → args[j]? = some v → Value.okWide Try.prog W .any base t v := hval0
  have hW' := hW
  obtain ⟨p, q, hA0, hV, rfl, hfz, hnd⟩ := hW
  have hA : DataW.TrodAll enc Try.prog W 0 (fun _ => true) true Try.f4.params.toList args.toList ds p := hA0
  rw [Try.params4] at hA hval
  obtain ⟨v0, vs0, d0, ds0, p0, q0, hargs, rfl, rfl, h0, r0⟩ := trodAll_cons hA
  obtain ⟨v1, vs1, d1, ds1, p1, q1, rfl, rfl, rfl, h1, r1⟩ := trodAll_cons r0
  obtain ⟨v2, vs2, d2, ds2, p2, q2, rfl, rfl, rfl, h2, r2⟩ := trodAll_cons r1
  obtain ⟨v3, vs3, d3, ds3, p3, q3, rfl, rfl, rfl, h3, r3⟩ := trodAll_cons r2
  obtain ⟨rfl, rfl, rfl⟩ := trodAll_nil r3
  obtain rfl : args = #[v0, v1, v2, v3] := by cases args; simp_all
  obtain ⟨rfl, rfl⟩ := trodVars_none hV
  obtain ⟨A0, len0, cap0, rfl⟩ := okWide_slice Try.underlying22 (hval 0 22 v0 rfl rfl)
  have k0 := h0
  have lt0 : ∀ x ∈ p0, x.block < W.heap.size := by obtain ⟨m, hm⟩ := k0; exact DataW.trod_lt m _ _ _ hm
  obtain ⟨l0, hR0, hK0⟩ := bytes_of k0
  obtain ⟨A1, len1, cap1, rfl⟩ := okWide_slice Try.underlying22 (hval 1 22 v1 rfl rfl)
  have k1 := h1
  have lt1 : ∀ x ∈ p1, x.block < W.heap.size := by obtain ⟨m, hm⟩ := k1; exact DataW.trod_lt m _ _ _ hm
  obtain ⟨l1, hR1, hK1⟩ := bytes_of k1
  obtain ⟨A2, len2, cap2, rfl⟩ := okWide_slice Try.underlying22 (hval 2 22 v2 rfl rfl)
  have k2 := h2
  have lt2 : ∀ x ∈ p2, x.block < W.heap.size := by obtain ⟨m, hm⟩ := k2; exact DataW.trod_lt m _ _ _ hm
  obtain ⟨l2, hR2, hK2⟩ := bytes_of k2
  obtain ⟨a3, rfl, rfl, rfl, w3⟩ := open_int Try.underlying5 (hval 3 5 v3 rfl rfl) h3
  clear hA0 hval0
  refine (whole_walk _ _ _ _ _ _ a3 W hR0 hK0 hR1 hK1 hR2 hK2 (bounds_u8 w3)).mono fun e W' ⟨he, bel⟩ => ?_
  subst he
  exact ⟨_, rfl, _, _, _, [], _, [], hW', trodAll_mk1 (shut_bool Try.underlying4 _), (trodAll_cons_mk (Below.trod laidOut (by kernel_rfl) (of_decide_eq_true (by kernel_rfl)) k0 bel lt0) (trodAll_cons_mk (Below.trod laidOut (by kernel_rfl) (of_decide_eq_true (by kernel_rfl)) k1 bel lt1) (trodAll_cons_mk (Below.trod laidOut (by kernel_rfl) (of_decide_eq_true (by kernel_rfl)) k2 bel lt2) (trodAll_cons_mk (shut_int Try.underlying5 w3) trodAll_mk0)))), rfl, bel.frame _, fun h => by cases h⟩

theorem whole_holds : Rows.QuiltWholeSaid :=
  OpenClaim.holds_of_wide 4 Try.f4 rfl rfl rfl rfl rfl rfl rfl ⟨rfl, rfl, rfl, rfl, rfl⟩ rfl rfl rfl rfl rfl (by kernel_rfl) Try.func4 (by kernel_rfl)
    (of_decide_eq_true (by kernel_rfl)) (by unfold Func.isWrapper; first | (rw [if_pos (by decide +kernel)]; kernel_rfl) | (rw [if_neg (by decide +kernel)]; exact ⟨rfl, rfl⟩))
    (fun os started H enc _ => whole_lifted os started H enc)
#print axioms whole_holds

end Go.Proofs.Ytpkondemkpogoaa
