/-
  QuiltWhole: what the closure does: one piece is put, some bytes are taken.
-/
import Derived.Test.YtpkondemkpogoaaQapart
import Derived.Test.YtpkondemkpogoaaQwholp
import Derived.Test.YtpkondemkpogoaaQopen
namespace Go.Proofs.Ytpkondemkpogoaa
open Go.RowKit
set_option linter.unusedVariables false
set_option linter.unusedSimpArgs false

/-- What is a row of pieces stays. -/
def KeepP (w w' : World) : Prop := ∀ b cs, Blk w b 37 cs → Blk w' b 37 cs
theorem KeepP.trans {w w' w'' : World} (h : KeepP w w') (k : KeepP w' w'') : KeepP w w'' := fun b cs hb => k b cs (h b cs hb)
theorem own_p {w w' : World} {base n size : Nat} {v : Value} {xs : List Value} (h : w.ownsRow base 37 size v n xs) (k : KeepP w w') : w'.ownsRow base 37 size v n xs := by
  refine ⟨h.1, ?_⟩
  rcases h.2 with h3 | ⟨g, cap, cur, rfl, hg, hb, r⟩
  · exact .inl h3
  · exact .inr ⟨g, cap, cur, rfl, hg, k g cur hb, r⟩
theorem KeepP.of {w w' : World} (k : KeepT w w') : KeepP w w' := fun b cs h => k b 37 cs h (by decide) (by decide)
/-- The captured cells, the quilt, what was read. -/
structure St (B : Nat) (w0 : World) (text : List Int) (qc gc g : Nat) (gv : Value) (w : World) (q : Q) : Prop where
  bq : Blk w qc 25 #[.pointer (some ⟨g, 0, none⟩)]
  bg : Blk w gc 22 #[gv]
  own : w.ownsRow B 5 1 gv q.rd.toNat ((text.take q.rd.toNat).map (Value.int .u8))
  qp : QP (fun b => gv.ownBlock ≠ some b) B w g q
  wi : WI text q
  be : Below B w0 w
  sz : B ≤ w.heap.size
  lo : B ≤ gc
theorem St.below {B : Nat} {w0 : World} {text : List Int} {qc gc g : Nat} {gv : Value} {w w' : World} {q : Q} (h : St B w0 text qc gc g gv w q) (hb : Below w.heap.size w w') : St B w0 text qc gc g gv w' q :=
  ⟨h.bq.same hb, h.bg.same hb, own_same h.own hb, h.qp.below hb, h.wi, h.be.trans (hb.mono h.sz), Nat.le_trans h.sz hb.size, h.lo⟩
set_option maxHeartbeats 8000000 in
set_option maxRecDepth 100000 in
theorem put_cl (B : Nat) (w0 : World) (text : List Int) (qc gc g : Nat) (gv : Value) (w : World) (q : Q) (sc : Nat) (st : Int) (off k : Nat) (v : Value) (en : Bool)
    (h : St B w0 text qc gc g gv w q) (hB : B = w0.heap.size) (hsc : Blk w0 sc 5 #[.int .u8 st]) (hst : 0 ≤ st ∧ st ≤ 255) (hh : hld q.L ≤ 900000) (hb : BytesOk text) (ht : text.length ≤ 300)
    (hk : off + k ≤ text.length) (he : en = true → off + k = text.length) (hr : Rd w .u8 v ((text.drop off).take k)) :
    Calls Try.prog 15 #[.agg #[.int .u64 (off : Int), v, .bool en], .pointer (some ⟨qc, 0, none⟩), .pointer (some ⟨sc, 0, none⟩), .pointer (some ⟨gc, 0, none⟩)] w fun e w' => e = .returned (.bool true) ∧
      ∃ gv', St B w0 text qc gc g gv' w' ((q.put off ((text.drop off).take k) en).take (1 + st)) ∧ KeepP w w' := by
  obtain ⟨i0, hi0, hz0, hz1, hz2⟩ := info_parts infoB
  have hlen : ((text.drop off).take k).length = k := by rw [List.length_take, List.length_drop]; omega
  obtain ⟨t, htt⟩ : ∃ t, t = (text.drop off).take k := ⟨_, rfl⟩
  have herr : q.err off t en = 0 := by rw [htt]; exact h.wi.err ht hk he
  have hbt : BytesOk t := by rw [htt]; exact (hb.drop off).take k
  have hw1 : WI text (q.put off t en) := by rw [htt]; exact h.wi.put hb ht hk he
  rw [← htt] at hr hlen ⊢
  have hh1 := Q.put_hld q off t en
  obtain ⟨hw2, htk⟩ := hw1.take (1 + st)
  have hgl := (hw1.i.take (1 + st)).2.2.1
  have hrd2 : ((q.put off t en).take (1 + st)).rd.toNat = q.rd.toNat + ((q.put off t en).n (1 + st)) := by
    have e1 : (q.put off t en).rd = q.rd := by unfold Q.put; split <;> rfl
    have e2 : ((q.put off t en).take (1 + st)).rd = (q.put off t en).rd + ((q.put off t en).n (1 + st) : Int) := rfl
    have e3 := h.wi.i.k.lo
    rw [e2, e1]
    omega
  have hrq : (q.put off t en).rd = q.rd := by unfold Q.put; split <;> rfl
  rw [hrq] at htk
  have hrl := hw2.rd
  have hlo2 := hw2.i.k.lo
  clear htt
  have hba : Below w.heap.size w (w.alloc (.cells #[.int .u64 (off : Int), v, .bool en] 37)) := (Below.refl _ _).alloc (Nat.le_refl _) _
  have hS := h.below hba
  have hrW := hr.below hba
  have hq0 : (w.alloc (.cells #[.int .u64 (off : Int), v, .bool en] 37)).cell? ⟨qc, 0, none⟩ = some (.pointer (some ⟨g, 0, none⟩)) := hS.bq.cell 0
  have hkp : KeepP w (w.alloc (.cells #[.int .u64 (off : Int), v, .bool en] 37)) := fun b cs hb' => hb'.same hba
  have HP := Lib.hid (put_lawP _ B g q off v t en (w.alloc (.cells #[.int .u64 (off : Int), v, .bool en] 37)) hS.qp h.wi.i (by omega) hS.sz hrW (by omega) hbt (by omega))
  have HH := Lib.hid herr
  have HS := Lib.hid hS
  have HL := Lib.hid hh1
  have HR := Lib.hid hrd2
  have HT := Lib.hid htk
  have HG := Lib.hid hgl
  have HRL := Lib.hid hrl
  have HB := Lib.hid hB
  have HLEN := Lib.hid hlen
  obtain ⟨hk1, hk2⟩ := hst
  clear hr hrW hba hS h herr hh1 hrd2 htk hgl hrl hrq hB hlen
  go_enter Try.func15, Try.ntmps15
  go_wp2_with fail
  (with_reducible refine HP.out.mono ?_)
  rintro e w2 ⟨rfl, hQ2, hb2, hk2', hm2⟩
  rw [HH.out]
  have hs2 : B ≤ w2.heap.size := Nat.le_trans HS.out.sz hb2.size
  have hgo : ∀ b, gv.ownBlock = some b → b < (w.alloc (.cells #[.int .u64 (off : Int), v, .bool en] 37)).heap.size := fun b hb' => (HS.out.own.lt b hb').2
  have hQ3 : QP (fun b => gv.ownBlock ≠ some b) B w2 g (q.put off t en) := hQ2.mono (fun b _ h2 => by
    rcases h2 with h2 | h2
    · exact h2
    · exact fun e => by have := hgo b e; omega)
  have hq2 : w2.cell? ⟨qc, 0, none⟩ = some (.pointer (some ⟨g, 0, none⟩)) := (hk2' _ _ _ HS.out.bq (by decide) (by decide)).cell 0
  have hs2' : w2.cell? ⟨sc, 0, none⟩ = some (.int .u8 st) := (hsc.below (HS.out.be.trans hb2) (by rw [HB.out]; exact hsc.lt)).cell 0
  have hT3 := Lib.hid (take_lawP _ B g _ (1 + st) w2 hQ3 hw1.i (by have := HL.out; have := HLEN.out; omega) hs2 (by omega))
  have hKT := Lib.hid hk2'
  have hB2 := HS.out.be.trans hb2
  clear HP hQ2 hQ3 hb2 hm2 hk2' hq0
  go_wp2_with fail
  (with_reducible refine hT3.out.mono ?_)
  rintro e w3 ⟨gb, rfl, hQ4, ho4, hb4, hk4, _⟩
  have hKT4 := hKT.out.trans hk4
  have hown3 := own_keep HS.out.own hKT4 (by decide) (by decide)
  have hs3 : B ≤ w3.heap.size := Nat.le_trans hs2 hb4.size
  have hbg3 := hKT4 _ _ _ HS.out.bg (by decide) (by decide)
  have hbq3 := hKT4 _ _ _ HS.out.bq (by decide) (by decide)
  have hg3 : w3.cell? ⟨gc, 0, none⟩ = some gv := hbg3.cell 0
  have hr4 := rd_of_own (k := .u8) ho4
  obtain ⟨Ab, cb, rfl⟩ := hr4.form
  obtain ⟨_, hA4, _, _, hrv4⟩ := hr4.rdv
  have hgl4 : ((q.put off t en).got (1 + st)).length ≤ 300 := by have h1 := HG.out; have h2 := HRL.out; have h3 := HR.out; omega
  have hrd4 : q.rd.toNat ≤ 300 := by have h1 := HR.out; have h2 := HRL.out; omega
  have hbel3 := hB2.trans hb4
  clear hT3 hKT hk4 hb4 hr4 ho4 hB2
  obtain ⟨Ag, cg, rfl, _⟩ := sl_of_own hown3
  go_wp2_with (first | (at_builtin; refine wpList_append_any _ rfl _ _ 22 rfl B 5 i0 _ 1 1 Try.underlying22 hi0 hz0 hz1 hz2 rfl (by decide) (.slice Ag q.rd.toNat cg) q.rd.toNat ((text.take q.rd.toNat).map (Value.int .u8)) rfl hown3 Ab ((q.put off t en).got (1 + st)).length cb (((q.put off t en).got (1 + st)).map (Value.int .u8)) rfl hrv4 (oneInts _ _) (by unfold maxLen; omega) (by omega) hs3 hA4 ?_; intro v5 w5 hown5 hgrow5 hat5; obtain ⟨A5, c5, rfl, _⟩ := sl_of_own hown5; have hbg5 := hbg3.grown hgrow5 (fun e => own_blk_ne hown3 hbg3 (by decide) e.symm); have f5 : w5.frozen? ⟨gc, 0, none⟩ = false := hbg5.frozen 0; have g5 : w5.cell? ⟨gc, 0, none⟩ = some (.slice Ag q.rd.toNat cg) := hbg5.cell 0) | fail)
  go_ret
  obtain ⟨ns, hns⟩ : ∃ ns, ns = ((q.put off t en).take (1 + st)).rd.toNat := ⟨_, rfl⟩
  have hlen5 : q.rd.toNat + ((q.put off t en).got (1 + st)).length = ns := by rw [hns, HR.out, HG.out]
  have htx : (text.take q.rd.toNat).map (Value.int .u8) ++ ((q.put off t en).got (1 + st)).map (Value.int .u8) = (text.take ns).map (Value.int .u8) := by rw [← List.map_append, HT.out, hns]
  rw [htx, hlen5] at hown5
  rw [hlen5] at hat5
  have hq5 : QP (fun b => (Value.slice A5 ns c5).ownBlock ≠ some b) B w5 g ((q.put off t en).take (1 + st)) := by
    refine QP.mono (S := fun b => (Value.slice Ag q.rd.toNat cg).ownBlock ≠ some b ∧ b < w3.heap.size) (QP.row (hQ4.mono (fun b hb' h => ⟨h, hb'⟩)) hgrow5 (fun m hm h => h.1 hm) (fun m hm => ?_)) (fun b _ h => ?_)
    · rcases hown3.2 with ⟨h1, _⟩ | ⟨g', cap', cur, h1, _, h2, _⟩
      · rw [h1] at hm; simp [Value.ownBlock] at hm
      · rw [h1] at hm
        simp only [Value.ownBlock, Option.some.injEq] at hm
        subst hm
        exact ⟨5, cur, h2, by decide, by decide⟩
    · rcases hat5 with h2 | h2
      · rw [h2]; exact h.1
      · rw [h2]; simp only [ne_eq, Option.some.injEq]; have := h.2; omega
  have hlo := HS.out.lo
  refine ⟨rfl, .slice A5 ns c5, ⟨?_, ?_, ?_, ?_, hw2, ?_, ?_, hlo⟩, ?_⟩
  · rw [hlen5]
    exact ((hbq3.grown hgrow5 (fun e => own_blk_ne hown3 hbq3 (by decide) e.symm)).far (hbq3.ne_ hbg3 (by decide)) _)
  · rw [hlen5]
    have h1 := hbg5.set_ 0 (.slice A5 ns c5)
    simpa using h1
  · rw [hlen5, ← hns]
    exact own_grown hown5 (grown_set (grown_refl w5 _) 0 _) (.inr (own_blk_ne hown5 hbg5 (by decide)))
  · rw [hlen5]
    exact hq5.cell hbg5 (by decide) (by decide) (by decide) 0 _
  · exact (hbel3.grown hgrow5 hs3 (fun m hm => (hown3.lt m hm).1)).grown (grown_set (grown_refl w5 _) 0 _) (Nat.le_trans hs3 hgrow5.size) (fun m hm => by simp only [Option.some.injEq] at hm; omega)
  · have := hgrow5.size
    simp only [World.setCell, Array.size_modify]
    omega
  · refine hkp.trans ((KeepP.of hKT4).trans (fun b cs hb' => ?_))
    exact (hb'.grown hgrow5 (fun e => own_blk_ne hown3 hb' (by decide) e.symm)).far (hb'.ne_ hbg3 (by decide)) _

end Go.Proofs.Ytpkondemkpogoaa
