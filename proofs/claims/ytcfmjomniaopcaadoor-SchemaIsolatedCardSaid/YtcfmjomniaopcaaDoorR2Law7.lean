/- A part of the proof: see the last text. -/
import Derived.Test.YtcfmjomniaopcaaDoorR2Bld21
import Derived.Test.YtcfmjomniaopcaaDoorR2Awake7
set_option linter.unusedSimpArgs false
set_option linter.unusedVariables false
/- SchemaIsolated. -/
namespace Go.Eng
open Go Go.Proofs
open Nat (reduceAdd reduceMul reduceSub)
set_option maxRecDepth 20000
set_option maxHeartbeats 32000000
attribute [local irreducible] wpI endP
theorem alike_reT (s : List Tbl) : AlikeL AlikeT (s.map reT) s := by
  refine ⟨by simp, fun i x y hx hy => ?_⟩
  rw [List.getElem?_map, hy] at hx
  have hx : reT y = x := by simpa using hx
  subst hx
  refine ⟨rfl, rfl, cn_items y.checks.lt, ⟨rfl, fun j a b ha hb => ?_⟩, ⟨rfl, fun j a b ha hb => ?_⟩⟩
  · have ha : y.keys.items[j]? = some a := ha
    rw [hb] at ha; cases ha; rfl
  · have ha : y.fgns.items[j]? = some a := ha
    rw [hb] at ha; cases ha; exact ⟨rfl, rfl, rfl⟩
theorem Own.idx {k : Nat} {tk : List Nat} {v : D} {es : List D} (h : Own k tk v es) (P : Program) (t : Nat) (kk : IntKind) (n : Int) : idxA P t v (.int kk n) = match sliceSz P t with
    | some k' => bif decide (k' = k) then (match atI es n with
      | some d => some (.ref d.cells 0)
      | none => none) else none
    | none => none := by
  rcases h with ⟨rfl, rfl⟩ | ⟨id, rfl, _⟩
  · show none = _
    have : atI ([] : List D) n = none := by cases n <;> rfl
    rw [this]
    cases sliceSz P t with
    | none => rfl
    | some k' => simp only []; cases decide (k' = k) <;> rfl
  · exact idxA_slice ..
theorem BoxS.len {α : Type} {f : α → D} {B : List (List D)} {k : Nat} {d : D} {l : List α} (h : BoxS f B k d l) (P : Program) (u : Nat) : lenT P u d = match sliceElem P u with | some _ => some l.length | none => none := by
  rcases h with ⟨rfl, rfl⟩ | ⟨_, id, _, rfl, _⟩
  · exact lenT_nil P u
  · rfl
theorem Rows.at {B : List (List D)} : ∀ {es : List D} {s : List Tbl}, Rows B es s → ∀ {k : Nat} {e : D}, es[k]? = some e → ∃ t, RowOk B e t
  | [], [], _, k, e, h => by simp at h
  | a :: es, t :: s, ⟨h1, hr⟩, 0, e, h => by
    have h : a = e := by simpa using h
    exact ⟨_, h ▸ h1⟩
  | a :: es, t :: s, ⟨h1, hr⟩, k + 1, e, h => Rows.at hr (by simpa using h)
  | [], _ :: _, h, _, _, _ => h.elim
  | _ :: _, [], h, _, _, _ => h.elim
theorem KeysB.at {B : List (List D)} : ∀ {ds : List D} {ks : List (Sl I64)}, KeysB B ds ks → ∀ {k : Nat} {d : D}, ds[k]? = some d → ∃ l : List I64, l.length ≤ 1000 ∧ BoxS I B 1 d l
  | [], [], _, k, e, h => by simp at h
  | a :: es, t :: s, ⟨⟨l, _, h1, h2⟩, hr⟩, 0, e, h => by
    have h : a = e := by simpa using h
    exact ⟨l, h1, h ▸ h2⟩
  | a :: es, t :: s, ⟨h1, hr⟩, k + 1, e, h => KeysB.at hr (by simpa using h)
  | [], _ :: _, h, _, _, _ => h.elim
  | _ :: _, [], h, _, _, _ => h.elim
theorem map_lenI {α : Type} {f : α → D} {k : Nat} (h : ∀ a, (f a).cells.length = k) (l : List α) : ∀ d ∈ l.map f, d.cells.length = k := fun d hd => by
  obtain ⟨a, _, rfl⟩ := List.mem_map.1 hd; exact h a
/-- Boxes as large as those. -/
def Shp (B bs : List (List D)) : Prop := ∀ (i : Nat) (c : List D), B[i]? = some c → ∃ c', bs[i]? = some c' ∧ c'.length = c.length
theorem Shp.set {B bs : List (List D)} (h : Shp B bs) {id : Nat} {c c2 : List D} (hc : bs[id]? = some c) (hl : c2.length = c.length) : Shp B (bs.set id c2) := fun i c0 hi => by
  obtain ⟨c', h1, h2⟩ := h i c0 hi
  by_cases e : id = i
  · subst e
    rw [hc] at h1; cases h1
    exact ⟨c2, by rw [List.getElem?_set_self (List.getElem?_eq_some_iff.1 hc).1], hl.trans h2⟩
  · exact ⟨c', by rw [List.getElem?_set_ne e]; exact h1, h2⟩
theorem law7 (l : Sl Stm) : callP (XG GK) TT 7 [sl 22 encStm l] = some (.bool true) := by
  refine callP_val T7 rfl (by simp only [go_sem]) ?_
  unfold Tryd.f7
  simp only [Option.getD_some]
  obtain ⟨b, hb, hsm⟩ := small (G := GK) l
  simp +decide only[go_sem,reduceAdd,reduceMul,reduceSub]
  refine gw trivial ?_
  cases b
  · repeat (first|(with_reducible first|refine q1 ?_|refine q2 ?_|refine q3 ?_|refine q4 ?_|refine q5 ?_|refine q6 ?_|refine q7 ?_|refine q8 ?_|refine q9 ?_|refine q10 ?_|refine q11 ?_|refine q12 (by decide) ?_)|((first|with_reducible refine q13 ?_|((with_reducible refine q14 ?_ ?_);focus exact rfl));intro K hK;simp +decide only[go_sem,reduceAdd,reduceMul,reduceSub,awake,hb];with_reducible refine hK _ ?_;clear hK K)|(with_reducible refine q15 ?_;intro K J hK hJ;simp +decide only[go_sem,reduceAdd,reduceMul,reduceSub,awake,hb];(with_reducible first|refine hK ?_|refine hJ ?_);clear hK hJ K J))
    simp +decide only[go_sem,reduceAdd,reduceMul,reduceSub]
  obtain ⟨h1, h2⟩ := hsm rfl
  obtain ⟨r, m, cM, hM⟩ := bld21M l h1 h2
  have c1 := bld21 l h1 h2
  have c2 := bld22 l h1 h2
  have hbi : ∀ b : Int, (b == b) = true := fun b => by simp
  have hbn : ∀ b : Int, (b != b) = false := fun b => by simp
  have hlen := bldF_len (step := stepR) l.items []
  have hne := bldF_ne l.items []
  generalize bldF stepR [] l.items = o at *
  cases o with
  | error p =>
    obtain ⟨i, e⟩ := p
    have hM : r = .tuple [.nil, .int .i64 (i : Int), .int .i64 e] := hM
    subst hM
    simp only [bldI, bldT] at c1 c2
    have he : (e != 0) = true := by simpa using hne i e rfl
    repeat (first|(with_reducible first|refine q1 ?_|refine q2 ?_|refine q3 ?_|refine q4 ?_|refine q5 ?_|refine q6 ?_|refine q7 ?_|refine q8 ?_|refine q9 ?_|refine q10 ?_|refine q11 ?_|refine q12 (by decide) ?_)|((first|with_reducible refine q13 ?_|((with_reducible refine q14 ?_ ?_);focus exact rfl));intro K hK;simp +decide only[go_sem,reduceAdd,reduceMul,reduceSub,awake,hb,cM,c1,c2,hbi,hbn,he];with_reducible refine hK _ ?_;clear hK K)|(with_reducible refine q15 ?_;intro K J hK hJ;simp +decide only[go_sem,reduceAdd,reduceMul,reduceSub,awake,hb,cM,c1,c2,hbi,hbn,he];(with_reducible first|refine hK ?_|refine hJ ?_);clear hK hJ K J))
    simp +decide only[go_sem,reduceAdd,reduceMul,reduceSub,awake,hb,cM,c1,c2,hbi,hbn,he]
  | ok s =>
    have hl := hlen s rfl
    simp only [bldI, bldT] at c1 c2
    obtain ⟨v, g, tk, es, rfl, hv, hR, rfl⟩ := hM
    have hsl : s.length < 4611686018427387904 := by simp at hl; omega
    have hsl2 : (s.map reT).length < 4611686018427387904 := by rw [List.length_map]; exact hsl
    have c3 := same23 (cn (s.map reT)) (cn s) (by rw [cn_items hsl, cn_items hsl2]; exact alike_reT s)
    have hel : es.length = s.length := hR.len
    have hvl := hv.len
    have hvi := hv.idx
    have hvo := hv.ok
    have hvc := hv.cells
    have hsi : (cn s).items.length = es.length := by rw [cn_items hsl, hel]
    generalize hB : [v] :: g = B at *
    have hnn : ((es.length : Int) != (es.length : Int)) = false := hbn _
    repeat (first|(with_reducible first|refine q1 ?_|refine q2 ?_|refine q3 ?_|refine q4 ?_|refine q5 ?_|refine q6 ?_|refine q7 ?_|refine q8 ?_|refine q9 ?_|refine q10 ?_|refine q11 ?_|refine q12 (by decide) ?_)|((first|with_reducible refine q13 ?_|((with_reducible refine q14 ?_ ?_);focus exact rfl));intro K hK;simp +decide only[go_sem,reduceAdd,reduceMul,reduceSub,awake,hb,cM,c1,c2,hbi,hbn,c3,hvl,hvi,hvo,hvc,hsi,hnn];with_reducible refine hK _ ?_;clear hK K)|(with_reducible refine q15 ?_;intro K J hK hJ;simp +decide only[go_sem,reduceAdd,reduceMul,reduceSub,awake,hb,cM,c1,c2,hbi,hbn,c3,hvl,hvi,hvo,hvc,hsi,hnn];(with_reducible first|refine hK ?_|refine hJ ?_);clear hK hJ K J))
    refine wpI_loopC (T := Nat × List (List D)) [0, 3, 6, 53, 54] rfl (by simp +decide only[go_sem,reduceAdd,reduceMul,reduceSub,awake,hb,cM,c1,c2,hbi,hbn,c3,hvl,hvi,hvo,hvc,hsi,hnn]; exact rfl) (fun p => [(54, .int .i64 (p.1 : Int))]) (fun _ => []) (fun p => ⟨p.2, tk⟩) (fun p => p.1 ≤ es.length ∧ Shp B p.2) (fun p => es.length - p.1) (0, B) (by simp +decide only[go_sem,reduceAdd,reduceMul,reduceSub,awake,hb,cM,c1,c2,hbi,hbn,c3,hvl,hvi,hvo,hvc,hsi,hnn] <;> rfl) (by exact ⟨Nat.zero_le _, fun i c h => ⟨c, h, rfl⟩⟩) ?_
    rintro ⟨k, bs⟩ ⟨hk, hS⟩
    simp only at hk hS ⊢
    by_cases h : k < es.length
    · have l_e : ((k : Int) < ((es).length : Int)) = True := by simp; omega
      obtain ⟨e, g_e⟩ : ∃ a_, (es)[k]? = some a_ := ⟨_, List.getElem?_eq_getElem (by assumption)⟩
      have w_e := wrap_nat k (by omega)
      obtain ⟨t, cD, kds, fD, hD, b, rfl, ⟨_, hcB⟩, ⟨_, hKB⟩, _⟩ := hR.at g_e
      have hcl := hcB.len
      have htl := t.cols.lt
      repeat (first|(with_reducible first|refine q1 ?_|refine q2 ?_|refine q3 ?_|refine q4 ?_|refine q5 ?_|refine q6 ?_|refine q7 ?_|refine q8 ?_|refine q9 ?_|refine q10 ?_|refine q11 ?_|refine q12 (by decide) ?_)|((first|with_reducible refine q13 ?_|((with_reducible refine q14 ?_ ?_);focus exact rfl));intro K hK;simp +decide only[go_sem,reduceAdd,reduceMul,reduceSub,awake,hb,cM,c1,c2,hbi,hbn,c3,hvl,hvi,hvo,hvc,hsi,hnn,l_e,g_e,w_e,hcl];with_reducible refine hK _ ?_;clear hK K)|(with_reducible refine q15 ?_;intro K J hK hJ;simp +decide only[go_sem,reduceAdd,reduceMul,reduceSub,awake,hb,cM,c1,c2,hbi,hbn,c3,hvl,hvi,hvo,hvc,hsi,hnn,l_e,g_e,w_e,hcl];(with_reducible first|refine hK ?_|refine hJ ?_);clear hK hJ K J))
      refine wpI_loopC (T := Nat × List (List D)) [0, 3, 6, 9, 53, 54, 62, 63] rfl (by simp +decide only[go_sem,reduceAdd,reduceMul,reduceSub,awake,hb,cM,c1,c2,hbi,hbn,c3,hvl,hvi,hvo,hvc,hsi,hnn,l_e,g_e,w_e,hcl]; exact rfl) (fun p => [(63, .int .i64 (p.1 : Int))]) (fun _ => []) (fun p => ⟨p.2, tk⟩) (fun p => p.1 ≤ t.cols.items.length ∧ Shp B p.2) (fun p => t.cols.items.length - p.1) (0, bs) (by simp +decide only[go_sem,reduceAdd,reduceMul,reduceSub,awake,hb,cM,c1,c2,hbi,hbn,c3,hvl,hvi,hvo,hvc,hsi,hnn,l_e,g_e,w_e,hcl] <;> rfl) (by exact ⟨Nat.zero_le _, hS⟩) ?_
      rintro ⟨j, bs2⟩ ⟨hj, hS2⟩
      simp only at hj hS2 ⊢
      by_cases h2 : j < t.cols.items.length
      · have l_j : ((j : Int) < (t.cols.items.length : Int)) = True := eq_true (by omega)
        have w_j := wrap_nat j (by omega)
        rcases hcB with ⟨e0, _⟩ | ⟨_, id, hid, rfl, hbx⟩
        · rw [e0] at h2; exact absurd h2 (by simp)
        obtain ⟨c', hb', hl'⟩ := hS2 id _ hbx
        rw [flat_len (k := 6) (map_lenI Col_len _), List.length_map] at hl'
        have hfit : (j * 6 + 1 ≤ c'.length) = True := eq_true (by omega)
        have hj0 : (0 ≤ (j : Int)) = True := eq_true (by omega)
        repeat (first|(with_reducible first|refine q1 ?_|refine q2 ?_|refine q3 ?_|refine q4 ?_|refine q5 ?_|refine q6 ?_|refine q7 ?_|refine q8 ?_|refine q9 ?_|refine q10 ?_|refine q11 ?_|refine q12 (by decide) ?_)|((first|with_reducible refine q13 ?_|((with_reducible refine q14 ?_ ?_);focus exact rfl));intro K hK;simp +decide only[go_sem,reduceAdd,reduceMul,reduceSub,awake,hb,cM,c1,c2,hbi,hbn,c3,hvl,hvi,hvo,hvc,hsi,hnn,l_e,g_e,w_e,hcl,l_j,w_j,hb',hfit,hj0];with_reducible refine hK _ ?_;clear hK K)|(with_reducible refine q15 ?_;intro K J hK hJ;simp +decide only[go_sem,reduceAdd,reduceMul,reduceSub,awake,hb,cM,c1,c2,hbi,hbn,c3,hvl,hvi,hvo,hvc,hsi,hnn,l_e,g_e,w_e,hcl,l_j,w_j,hb',hfit,hj0];(with_reducible first|refine hK ?_|refine hJ ?_);clear hK hJ K J))
        exact ⟨(j + 1, bs2.set id (c'.set (j * 6 + 0) (.str [99, 104, 97, 110, 103, 101, 100]))), by simp +decide only[go_sem,reduceAdd,reduceMul,reduceSub,awake,hb,cM,c1,c2,hbi,hbn,c3,hvl,hvi,hvo,hvc,hsi,hnn,l_e,g_e,w_e,hcl] <;> rfl, ⟨by simp only; omega, hS2.set hb' List.length_set⟩, by simp only; omega⟩
      have l_j : ((j : Int) < (t.cols.items.length : Int)) = False := eq_false (by omega)
      repeat (first|(with_reducible first|refine q1 ?_|refine q2 ?_|refine q3 ?_|refine q4 ?_|refine q5 ?_|refine q6 ?_|refine q7 ?_|refine q8 ?_|refine q9 ?_|refine q10 ?_|refine q11 ?_|refine q12 (by decide) ?_)|((first|with_reducible refine q13 ?_|((with_reducible refine q14 ?_ ?_);focus exact rfl));intro K hK;simp +decide only[go_sem,reduceAdd,reduceMul,reduceSub,awake,hb,cM,c1,c2,hbi,hbn,c3,hvl,hvi,hvo,hvc,hsi,hnn,l_e,g_e,w_e,hcl,l_j];with_reducible refine hK _ ?_;clear hK K)|(with_reducible refine q15 ?_;intro K J hK hJ;simp +decide only[go_sem,reduceAdd,reduceMul,reduceSub,awake,hb,cM,c1,c2,hbi,hbn,c3,hvl,hvi,hvo,hvc,hsi,hnn,l_e,g_e,w_e,hcl,l_j];(with_reducible first|refine hK ?_|refine hJ ?_);clear hK hJ K J))
      refine wpI_loopC (T := Nat × List (List D)) [0, 3, 6, 53, 54, 79, 80, 81] rfl (by simp +decide only[go_sem,reduceAdd,reduceMul,reduceSub,awake,hb,cM,c1,c2,hbi,hbn,c3,hvl,hvi,hvo,hvc,hsi,hnn,l_e,g_e,w_e,hcl,l_j]; exact rfl) (fun p => [(81, .int .i64 (p.1 : Int))]) (fun _ => []) (fun p => ⟨p.2, tk⟩) (fun p => p.1 ≤ kds.length ∧ Shp B p.2) (fun p => kds.length - p.1) (0, bs2) (by simp +decide only[go_sem,reduceAdd,reduceMul,reduceSub,awake,hb,cM,c1,c2,hbi,hbn,c3,hvl,hvi,hvo,hvc,hsi,hnn,l_e,g_e,w_e,hcl,l_j] <;> rfl) (by exact ⟨Nat.zero_le _, hS2⟩) ?_
      rintro ⟨j2, bs3⟩ ⟨hj2, hS3⟩
      simp only at hj2 hS3 ⊢
      have hkl := hKB.len
      have hklt := t.keys.lt
      by_cases h3 : j2 < kds.length
      · have l_kd : ((j2 : Int) < ((kds).length : Int)) = True := by simp; omega
        obtain ⟨kd, g_kd⟩ : ∃ a_, (kds)[j2]? = some a_ := ⟨_, List.getElem?_eq_getElem (by assumption)⟩
        have w_kd := wrap_nat j2 (by omega)
        obtain ⟨l2, hl2, hkB⟩ := hKB.at g_kd
        have hkl2 := hkB.len
        have hko := hkB.ok
        have hkc := hkB.cells
        repeat (first|(with_reducible first|refine q1 ?_|refine q2 ?_|refine q3 ?_|refine q4 ?_|refine q5 ?_|refine q6 ?_|refine q7 ?_|refine q8 ?_|refine q9 ?_|refine q10 ?_|refine q11 ?_|refine q12 (by decide) ?_)|((first|with_reducible refine q13 ?_|((with_reducible refine q14 ?_ ?_);focus exact rfl));intro K hK;simp +decide only[go_sem,reduceAdd,reduceMul,reduceSub,awake,hb,cM,c1,c2,hbi,hbn,c3,hvl,hvi,hvo,hvc,hsi,hnn,l_e,g_e,w_e,hcl,l_j,l_kd,g_kd,w_kd,hkl2,hko,hkc];with_reducible refine hK _ ?_;clear hK K)|(with_reducible refine q15 ?_;intro K J hK hJ;simp +decide only[go_sem,reduceAdd,reduceMul,reduceSub,awake,hb,cM,c1,c2,hbi,hbn,c3,hvl,hvi,hvo,hvc,hsi,hnn,l_e,g_e,w_e,hcl,l_j,l_kd,g_kd,w_kd,hkl2,hko,hkc];(with_reducible first|refine hK ?_|refine hJ ?_);clear hK hJ K J))
        refine wpI_loopC (T := Nat × List (List D)) [0, 3, 6, 12, 53, 54, 79, 80, 81, 86, 87] rfl (by simp +decide only[go_sem,reduceAdd,reduceMul,reduceSub,awake,hb,cM,c1,c2,hbi,hbn,c3,hvl,hvi,hvo,hvc,hsi,hnn,l_e,g_e,w_e,hcl,l_j,l_kd,g_kd,w_kd,hkl2,hko,hkc]; exact rfl) (fun p => [(87, .int .i64 (p.1 : Int))]) (fun _ => []) (fun p => ⟨p.2, tk⟩) (fun p => p.1 ≤ l2.length ∧ Shp B p.2) (fun p => l2.length - p.1) (0, bs3) (by simp +decide only[go_sem,reduceAdd,reduceMul,reduceSub,awake,hb,cM,c1,c2,hbi,hbn,c3,hvl,hvi,hvo,hvc,hsi,hnn,l_e,g_e,w_e,hcl,l_j,l_kd,g_kd,w_kd,hkl2,hko,hkc] <;> rfl) (by exact ⟨Nat.zero_le _, hS3⟩) ?_
        rintro ⟨j3, bs4⟩ ⟨hj3, hS4⟩
        simp only at hj3 hS4 ⊢
        by_cases h4 : j3 < l2.length
        · have l_j3 : ((j3 : Int) < (l2.length : Int)) = True := eq_true (by omega)
          have w_j3 := wrap_nat j3 (by omega)
          rcases hkB with ⟨e0, _⟩ | ⟨_, id, hid, rfl, hbx⟩
          · rw [e0] at h4; exact absurd h4 (by simp)
          obtain ⟨c', hb', hl'⟩ := hS4 id _ hbx
          rw [flat_len (k := 1) (map_lenI I_len _), List.length_map] at hl'
          have hfit : (j3 + 1 ≤ c'.length) = True := eq_true (by omega)
          have hj0 : (0 ≤ (j3 : Int)) = True := eq_true (by omega)
          repeat (first|(with_reducible first|refine q1 ?_|refine q2 ?_|refine q3 ?_|refine q4 ?_|refine q5 ?_|refine q6 ?_|refine q7 ?_|refine q8 ?_|refine q9 ?_|refine q10 ?_|refine q11 ?_|refine q12 (by decide) ?_)|((first|with_reducible refine q13 ?_|((with_reducible refine q14 ?_ ?_);focus exact rfl));intro K hK;simp +decide only[go_sem,reduceAdd,reduceMul,reduceSub,awake,hb,cM,c1,c2,hbi,hbn,c3,hvl,hvi,hvo,hvc,hsi,hnn,l_e,g_e,w_e,hcl,l_j,l_kd,g_kd,w_kd,hkl2,hko,hkc,l_j3,w_j3,hb',hfit,hj0];with_reducible refine hK _ ?_;clear hK K)|(with_reducible refine q15 ?_;intro K J hK hJ;simp +decide only[go_sem,reduceAdd,reduceMul,reduceSub,awake,hb,cM,c1,c2,hbi,hbn,c3,hvl,hvi,hvo,hvc,hsi,hnn,l_e,g_e,w_e,hcl,l_j,l_kd,g_kd,w_kd,hkl2,hko,hkc,l_j3,w_j3,hb',hfit,hj0];(with_reducible first|refine hK ?_|refine hJ ?_);clear hK hJ K J))
          exact ⟨(j3 + 1, bs4.set id (c'.set j3 (.int .i64 77))), by simp +decide only[go_sem,reduceAdd,reduceMul,reduceSub,awake,hb,cM,c1,c2,hbi,hbn,c3,hvl,hvi,hvo,hvc,hsi,hnn,l_e,g_e,w_e,hcl,l_j,l_kd,g_kd,w_kd,hkl2,hko,hkc] <;> rfl, ⟨by simp only; omega, hS4.set hb' List.length_set⟩, by simp only; omega⟩
        · have l_j3 : ((j3 : Int) < (l2.length : Int)) = False := eq_false (by omega)
          repeat (first|(with_reducible first|refine q1 ?_|refine q2 ?_|refine q3 ?_|refine q4 ?_|refine q5 ?_|refine q6 ?_|refine q7 ?_|refine q8 ?_|refine q9 ?_|refine q10 ?_|refine q11 ?_|refine q12 (by decide) ?_)|((first|with_reducible refine q13 ?_|((with_reducible refine q14 ?_ ?_);focus exact rfl));intro K hK;simp +decide only[go_sem,reduceAdd,reduceMul,reduceSub,awake,hb,cM,c1,c2,hbi,hbn,c3,hvl,hvi,hvo,hvc,hsi,hnn,l_e,g_e,w_e,hcl,l_j,l_kd,g_kd,w_kd,hkl2,hko,hkc,l_j3];with_reducible refine hK _ ?_;clear hK K)|(with_reducible refine q15 ?_;intro K J hK hJ;simp +decide only[go_sem,reduceAdd,reduceMul,reduceSub,awake,hb,cM,c1,c2,hbi,hbn,c3,hvl,hvi,hvo,hvc,hsi,hnn,l_e,g_e,w_e,hcl,l_j,l_kd,g_kd,w_kd,hkl2,hko,hkc,l_j3];(with_reducible first|refine hK ?_|refine hJ ?_);clear hK hJ K J))
          exact ⟨(j2 + 1, _), by simp +decide only[go_sem,reduceAdd,reduceMul,reduceSub,awake,hb,cM,c1,c2,hbi,hbn,c3,hvl,hvi,hvo,hvc,hsi,hnn,l_e,g_e,w_e,hcl,l_j,l_kd,g_kd,w_kd,hkl2,hko,hkc] <;> rfl, ⟨by simp only; omega, hS4⟩, by simp only; omega⟩
      · have l_e2 : ((j2 : Int) < ((kds).length : Int)) = False := by simp; omega
        repeat (first|(with_reducible first|refine q1 ?_|refine q2 ?_|refine q3 ?_|refine q4 ?_|refine q5 ?_|refine q6 ?_|refine q7 ?_|refine q8 ?_|refine q9 ?_|refine q10 ?_|refine q11 ?_|refine q12 (by decide) ?_)|((first|with_reducible refine q13 ?_|((with_reducible refine q14 ?_ ?_);focus exact rfl));intro K hK;simp +decide only[go_sem,reduceAdd,reduceMul,reduceSub,awake,hb,cM,c1,c2,hbi,hbn,c3,hvl,hvi,hvo,hvc,hsi,hnn,l_e,g_e,w_e,hcl,l_j,l_e2];with_reducible refine hK _ ?_;clear hK K)|(with_reducible refine q15 ?_;intro K J hK hJ;simp +decide only[go_sem,reduceAdd,reduceMul,reduceSub,awake,hb,cM,c1,c2,hbi,hbn,c3,hvl,hvi,hvo,hvc,hsi,hnn,l_e,g_e,w_e,hcl,l_j,l_e2];(with_reducible first|refine hK ?_|refine hJ ?_);clear hK hJ K J))
        exact ⟨(k + 1, _), by simp +decide only[go_sem,reduceAdd,reduceMul,reduceSub,awake,hb,cM,c1,c2,hbi,hbn,c3,hvl,hvi,hvo,hvc,hsi,hnn,l_e,g_e,w_e,hcl,l_j,l_e2] <;> rfl, ⟨by simp only; omega, hS3⟩, by simp only; omega⟩
    · have l_e3 : ((k : Int) < ((es).length : Int)) = False := by simp; omega
      repeat (first|(with_reducible first|refine q1 ?_|refine q2 ?_|refine q3 ?_|refine q4 ?_|refine q5 ?_|refine q6 ?_|refine q7 ?_|refine q8 ?_|refine q9 ?_|refine q10 ?_|refine q11 ?_|refine q12 (by decide) ?_)|((first|with_reducible refine q13 ?_|((with_reducible refine q14 ?_ ?_);focus exact rfl));intro K hK;simp +decide only[go_sem,reduceAdd,reduceMul,reduceSub,awake,hb,cM,c1,c2,hbi,hbn,c3,hvl,hvi,hvo,hvc,hsi,hnn,l_e3];with_reducible refine hK _ ?_;clear hK K)|(with_reducible refine q15 ?_;intro K J hK hJ;simp +decide only[go_sem,reduceAdd,reduceMul,reduceSub,awake,hb,cM,c1,c2,hbi,hbn,c3,hvl,hvi,hvo,hvc,hsi,hnn,l_e3];(with_reducible first|refine hK ?_|refine hJ ?_);clear hK hJ K J))
      simp +decide only[go_sem,reduceAdd,reduceMul,reduceSub,awake,hb,cM,c1,c2,hbi,hbn,c3,hvl,hvi,hvo,hvc,hsi,hnn,l_e3]
end Go.Eng
