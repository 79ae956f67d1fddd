/- A part of the proof: see the last text. -/
import Derived.Test.YtcfmjomniaopcaaDoorR2Pg
import Derived.Test.YtcfmjomniaopcaaDoorR2Pc
set_option linter.unusedSimpArgs false
set_option linter.unusedVariables false
/- The program's keys. -/
namespace Go.Eng
open Go Go.Proofs
open Nat (reduceAdd reduceMul reduceSub)
set_option maxRecDepth 20000
set_option maxHeartbeats 32000000
def stK (W : List Nat) (k : Nat) : List D := (List.range (k + 1)).map fun i => .int .i64 (offW W i : Nat)
theorem stK_last (W : List Nat) (k : Nat) : (stK W k)[k]? = some (.int .i64 (offW W k : Nat)) := by
  unfold stK; rw [List.getElem?_map, List.getElem?_range (by omega)]; rfl
theorem stK_succ (W : List Nat) (k : Nat) : stK W (k + 1) = stK W k ++ [.int .i64 (offW W (k + 1) : Nat)] := by
  unfold stK; rw [List.range_succ, List.map_append]; rfl
theorem stK_len (W : List Nat) (k : Nat) : (stK W k).length = k + 1 := by simp [stK]
def tgK : Nat → Option Nat
  | 0 => some 0
  | _ + 1 => some 1
def tkK : Nat → List Nat
  | 0 => []
  | k + 1 => [k + 2]
theorem app_stK (W : List Nat) (k : Nat) (bx : List (List D)) (x : D) : appendD 1 ⟨bx, tkK k⟩ (.slice (tgK k) 1 (stK W k)) [x] = some (.slice (some 1) 1 (stK W k ++ [x]), ⟨bx, [k + 2]⟩) := by
  cases k with
  | zero => simp [appendD, tgK, tkK, stK_len]
  | succ k => simp [appendD, tgK, tkK, stK_len]
theorem of47 (s : Sl Tbl) (b : Bnd) (W : List Nat) (h : WOK s.items b.tabs.items W) (h0 : W ≠ []) (c : Sl Ex) (hc : callP (XG GK) TT 90 [b.w.enc] = some (sl 8 encEx c)) :
    callR (XG GK) TT 47 ⟨[], []⟩ [sl 5 encTbl s, encBnd b] = some (.ptr 0 0, ⟨[qC s b (some 1) W c], [W.length + 1]⟩) := by
  refine callR_val T47 rfl ?_
  unfold Tryd.f47
  simp only [Option.getD_some]
  have hW := h.len
  have hf := h.few
  simp only [ExR_eq] at hc
  simp +decide only[go_sem,reduceAdd,reduceMul,reduceSub,hc]
  refine gw hc ?_
  refine wpI_loopC (T := Nat) [0, 5, 18, 19, 20] rfl (by simp +decide only[go_sem,reduceAdd,reduceMul,reduceSub,hc]; exact rfl) (fun k => [(20, .int .i64 (k : Int))]) (fun _ => []) (fun k => ⟨[[sl 5 encTbl s, .int .i64 5, .str [], .nil, .nil, .nil, .nil, .nil, .nil, .nil, sl 2 encSrc b.src, .int .i64 b.w.a.1, .str b.w.s, .str b.w.t, .int .i64 b.w.b.1, .int .i64 b.w.c.1, .int .i64 b.w.d.1, .str b.w.u, sl 8 encEx b.w.args, .nil, .nil, .int .i64 0, .str [], .int .i64 0, sl 1 I b.tabs, sl 5 vr b.vars, .nil, .slice (tgK k) 1 (stK W k), sl 8 encEx c]], tkK k⟩) (fun k => k ≤ W.length) (fun k => W.length - k) 0 (by simp +decide only[go_sem,reduceAdd,reduceMul,reduceSub,hc] <;> rfl) (by simp) ?_
  rintro k hk
  by_cases h1 : k < b.tabs.items.length
  · obtain ⟨v, t, w, g1, g2, g3, g4, g5⟩ := h.at (i := k) (by omega)
    have hl : ((k : Int) < (b.tabs.items.length : Int)) = True := eq_true (by omega)
    have ho := h.off k (by omega)
    have hw := wrap_nat k (by omega)
    have ha := wrap_add (offW W k) w (by omega)
    rw [← offW_succ g3] at ha
    have hs := stK_last W k
    have hle : (k + 1 + 1 ≤ 16777216) = True := eq_true (by omega)
    have hsl := stK_len W k
    have hap := app_stK W k
    refine gw (an hc (an hl (an g1 (an g2 (an g4 (an ha (an hw (an hs (an hle (an hsl hap)))))))))) ?_
    exact ⟨k + 1, by simp +decide only[go_sem,reduceAdd,reduceMul,reduceSub,hc,hl,g1,g2,g4,ha,hw,hs,hle,hsl,hap,stK_succ,tgK,tkK] <;> rfl, by omega, by omega⟩
  · have hl : ((k : Int) < (b.tabs.items.length : Int)) = False := eq_false (by omega)
    obtain rfl : k = W.length := by omega
    refine gw (an hc hl) ?_
    simp +decide only[go_sem,reduceAdd,reduceMul,reduceSub,hc]
    obtain ⟨n, hn⟩ : ∃ n, W.length = n + 1 := ⟨W.length - 1, by have : W.length ≠ 0 := fun e => h0 (List.eq_nil_of_length_eq_zero e); omega⟩
    simp only [qC, stL, stK, hn, tgK, tkK]
    simp
/-- A slice over a box of its own. -/
def BoxL (bs : List (List D)) (k : Nat) (d : D) (es : List D) : Prop := (d = .nil ∧ es = []) ∨ ∃ id, d = .rsl id 0 es.length k ∧ bs[id]? = some (flat es) ∧ es ≠ []
theorem BoxL.ok {bs : List (List D)} {k : Nat} {d : D} {es : List D} (h : BoxL bs k d es) : d.okC = true := by
  rcases h with ⟨rfl, _⟩ | ⟨_, rfl, _⟩ <;> rfl
theorem BoxL.cells {bs : List (List D)} {k : Nat} {d : D} {es : List D} (h : BoxL bs k d es) : d.cells = [d] := by
  rcases h with ⟨rfl, _⟩ | ⟨_, rfl, _⟩ <;> rfl
theorem BoxL.elems {bs : List (List D)} {tk : List Nat} {k : Nat} {d : D} {α : Type} {f : α → D} {l : List α} (h : BoxL bs k d (l.map f)) (hk : ∀ a, (f a).cells.length = k) (hm : ∀ a, mkEl k (f a).cells = f a) : elemsOf ⟨bs, tk⟩ k d = some (l.map f) := by
  rcases h with ⟨rfl, h⟩ | ⟨id, rfl, h, _⟩
  · rw [h]; rfl
  · have hf : (flat (l.map f)).length = l.length * k := by
      rw [flat_len (k := k) (fun d hd => by obtain ⟨a, _, rfl⟩ := List.mem_map.1 hd; exact hk a), List.length_map]
    simp only [elemsOf, elemsR, h, List.length_map, hf, decide_true, cond_true, Nat.zero_add, Nat.le_refl, List.drop_zero, chunks_flat hk hm]
theorem BoxL.app {bs : List (List D)} {tk : List Nat} {k : Nat} {d : D} {es : List D} (h : BoxL bs k d es) (hk : ∀ x ∈ es, x.cells.length = k) (x : D) :
    ∃ bs', appendB k ⟨bs, tk⟩ d es [x] = some (.rsl bs.length 0 (es.length + 1) k, ⟨bs', tk⟩) ∧ BoxL bs' k (.rsl bs.length 0 (es.length + 1) k) (es ++ [x]) ∧ bs'.length = bs.length + 1 ∧ ∀ i c, bs[i]? = some c → (∀ n, d ≠ .rsl i 0 n k) → bs'[i]? = some c := by
  rcases h with ⟨rfl, rfl⟩ | ⟨id, rfl, h, h0⟩
  · refine ⟨bs ++ [flat [x]], rfl, .inr ⟨bs.length, rfl, by simp, by simp⟩, by simp, fun i c hc _ => ?_⟩
    rw [List.getElem?_append_left (List.getElem?_eq_some_iff.1 hc).1]; exact hc
  · have hf : (flat es).length = es.length * k := flat_len hk
    have h1 : 0 < es.length := List.length_pos_iff.2 h0
    refine ⟨bs.set id [] ++ [flat (es ++ [x])], ?_, .inr ⟨bs.length, by simp, by simp, by simp⟩, by simp, fun i c hc hd => ?_⟩
    · simp [appendB, h, hf, h1]
    · have hi : id ≠ i := fun e => hd es.length (by rw [e])
      rw [List.getElem?_append_left (by rw [List.length_set]; exact (List.getElem?_eq_some_iff.1 hc).1), List.getElem?_set_ne hi]; exact hc
theorem BoxL.keep {bs bs' : List (List D)} {k : Nat} {d : D} {es : List D} (h : BoxL bs k d es) (hb : ∀ i c n, d = .rsl i 0 n k → bs[i]? = some c → bs'[i]? = some c) : BoxL bs' k d es := by
  rcases h with h | ⟨id, h1, h2, h3⟩
  · exact .inl h
  · exact .inr ⟨id, h1, hb id _ _ h1 h2, h3⟩
/-- The keys that are found among the first k columns. -/
def ksF (g : Nat → Option Ex) : Nat → List (Nat × Ex)
  | 0 => []
  | k + 1 => match g k with
    | some x => ksF g k ++ [(k, x)]
    | none => ksF g k
def cD (p : Nat × Ex) : D := .int .i64 (p.1 : Int)
def kD (p : Nat × Ex) : D := encEx p.2
theorem ksF_len (g : Nat → Option Ex) : ∀ k, (ksF g k).length ≤ k
  | 0 => Nat.le_refl _
  | k + 1 => by
    have := ksF_len g k
    rw [ksF]
    split
    · rw [List.length_append]; simpa using this
    · omega
structure KInv (q : List D) (bs : List (List D)) (c k : D) (l : List (Nat × Ex)) : Prop where
  q0 : bs[0]? = some q
  cb : BoxL bs 1 c (l.map cD)
  kb : BoxL bs 8 k (l.map kD)
  c0 : ∀ n k', c ≠ .rsl 0 0 n k'
  k0 : ∀ n k', k ≠ .rsl 0 0 n k'
  ck : ∀ i n n' k' k'', c = .rsl i 0 n k' → k ≠ .rsl i 0 n' k''
theorem KInv.grow {q : List D} {bs : List (List D)} {c k : D} {l : List (Nat × Ex)} (h : KInv q bs c k l) (x : List D) : KInv q (bs ++ [x]) c k l := by
  have hb : ∀ (i : Nat) (c : List D), bs[i]? = some c → (bs ++ [x])[i]? = some c := fun i c hc => by
    rw [List.getElem?_append_left (List.getElem?_eq_some_iff.1 hc).1]; exact hc
  exact ⟨hb _ _ h.q0, h.cb.keep fun i c n _ hc => hb i c hc, h.kb.keep fun i c n _ hc => hb i c hc, h.c0, h.k0, h.ck⟩
theorem cD_len (p : Nat × Ex) : (cD p).cells.length = 1 := rfl
theorem kD_len (p : Nat × Ex) : (kD p).cells.length = 8 := ex_len p.2
theorem cD_mk (p : Nat × Ex) : mkEl 1 (cD p).cells = cD p := rfl
theorem kD_mk (p : Nat × Ex) : mkEl 8 (kD p).cells = kD p := ex_mk p.2
theorem map_len {α : Type} {f : α → D} {k : Nat} (h : ∀ a, (f a).cells.length = k) (l : List α) : ∀ d ∈ l.map f, d.cells.length = k := fun d hd => by
  obtain ⟨a, _, rfl⟩ := List.mem_map.1 hd; exact h a
/-- One key more. -/
theorem KInv.app {q : List D} {bs : List (List D)} {tk : List Nat} {c k : D} {l : List (Nat × Ex)} (h : KInv q bs c k l) (p : Nat × Ex) (hpos : 0 < bs.length) :
    ∃ bs1 bs2, appendB 1 ⟨bs, tk⟩ c (l.map cD) [cD p] = some (.rsl bs.length 0 (l.length + 1) 1, ⟨bs1, tk⟩) ∧ elemsOf ⟨bs1, tk⟩ 8 k = some (l.map kD) ∧
      appendB 8 ⟨bs1, tk⟩ k (l.map kD) [kD p] = some (.rsl (bs.length + 1) 0 (l.length + 1) 8, ⟨bs2, tk⟩) ∧ KInv q bs2 (.rsl bs.length 0 (l.length + 1) 1) (.rsl (bs.length + 1) 0 (l.length + 1) 8) (l ++ [p]) := by
  obtain ⟨bs1, h1, h2, h3, h4⟩ := h.cb.app (tk := tk) (map_len cD_len l) (cD p)
  rw [List.length_map] at h1 h2
  have hkb : BoxL bs1 8 k (l.map kD) := h.kb.keep fun i c' n e hc => h4 i c' hc fun n' e' => h.ck i n' n 1 8 e' e
  obtain ⟨bs2, g1, g2, g3, g4⟩ := hkb.app (tk := tk) (map_len kD_len l) (kD p)
  rw [List.length_map, h3] at g1 g2
  refine ⟨bs1, bs2, h1, hkb.elems kD_len kD_mk, g1, ⟨?_, ?_, ?_, ?_, ?_, ?_⟩⟩
  · exact g4 0 _ (h4 0 _ h.q0 fun n e => h.c0 n 1 e) fun n e => h.k0 n 8 e
  · rw [List.map_append]
    refine h2.keep fun i c' n e hc => g4 i c' hc fun n' e' => ?_
    simp only [D.rsl.injEq] at e
    rw [← e.1] at e'
    have hb : bs[bs.length]? = none := by simp
    rcases h.kb with ⟨e1, _⟩ | ⟨id, e1, e2, _⟩
    · rw [e1] at e'; cases e'
    · rw [e1] at e'; simp only [D.rsl.injEq] at e'; rw [e'.1, hb] at e2; cases e2
  · rw [List.map_append]; exact g2
  · intro n k' e; simp only [D.rsl.injEq] at e; omega
  · intro n k' e; simp only [D.rsl.injEq] at e; omega
  · intro i n n' k' k'' e e'
    simp only [D.rsl.injEq] at e e'; omega
theorem keys48 (s : Sl Tbl) (b : Bnd) (W : List Nat) (h : WOK s.items b.tabs.items W) (src w : Nat) (hw : W[src]? = some w) (known : Sl I64) (tk : List Nat) (tg : Option Nat) (c : Sl Ex) (g : Nat → Option Ex)
    (hg : ∀ (m : Mem) (k : Nat), m.boxes[0]? = some (qC s b tg W c) → callR (XG GK) TT 91 m [.ptr 0 0, .int .i64 ((offW W src + k : Nat) : Int), .int .i64 0, sl 1 I known] = some (gvT (g k), ⟨m.boxes ++ [[.int .i64 ((offW W src + k : Nat) : Int)]], m.toks⟩)) :
    ∃ r m', callR (XG GK) TT 100048 ⟨[qC s b tg W c], tk⟩ [.ptr 0 0, .int .i64 (src : Int), sl 1 I known] = some (r, m') ∧ ∃ cd kd bs, r = .tuple [cd, kd] ∧ m' = ⟨bs, tk⟩ ∧ KInv (qC s b tg W c) bs cd kd (ksF g w) := by
  refine callR_body T100048 rfl ?_
  unfold Tryd.f48
  simp only [Option.getD_some]
  have hsrc := (List.getElem?_eq_some_iff.1 hw).1
  have hW := h.len
  have hf := h.few
  have ho := h.off src (by omega)
  have hw20 : w ≤ 20 := by
    obtain ⟨_, _, w', _, _, g3, _, g5⟩ := h.at (i := src) (by omega)
    rw [hw] at g3; cases g3; exact g5
  have i1 := stL_at (W := W) (i := src) (by omega)
  have i2 := stL_at (W := W) (i := src + 1) (by omega)
  have w1 := wrap_nat src (by omega)
  have hsub : IntKind.i64.wrap ((offW W (src + 1) : Int) - (offW W src : Int)) = (w : Int) := by
    rw [offW_succ hw, wrap_fit _ (by omega)]; omega
  have hq : qC s b tg W c = [sl 5 encTbl s, .int .i64 5, .str [], .nil, .nil, .nil, .nil, .nil, .nil, .nil, sl 2 encSrc b.src, .int .i64 b.w.a.1, .str b.w.s, .str b.w.t, .int .i64 b.w.b.1, .int .i64 b.w.c.1, .int .i64 b.w.d.1, .str b.w.u, sl 8 encEx b.w.args, .nil, .nil, .int .i64 0, .str [], .int .i64 0, sl 1 I b.tabs, sl 5 vr b.vars, .nil, .slice tg 1 (stL W), sl 8 encEx c] := rfl
  generalize qC s b tg W c = q at *
  have hb0 : ([q] : List (List D))[0]? = some q := rfl
  simp +decide only[go_sem,reduceAdd,reduceMul,reduceSub,i1,i2,w1,hsub,hq]
  refine gw (an i1 (an i2 (an w1 (an hsub hq)))) ?_
  rw [← hq]
  refine wpI_loopC (T := Nat × D × D × List (List D)) [0, 1, 2, 8, 9, 28, 29] rfl (by simp +decide only[go_sem,reduceAdd,reduceMul,reduceSub,i1,i2,w1,hsub]; exact rfl) (fun p => [(29, .int .i64 (p.1 : Int)), (8, p.2.1), (9, p.2.2.1)]) (fun _ => []) (fun p => ⟨p.2.2.2, tk⟩) (fun p => p.1 ≤ w ∧ KInv q p.2.2.2 p.2.1 p.2.2.1 (ksF g p.1)) (fun p => w - p.1) (0, .nil, .nil, [q]) (by simp +decide only[go_sem,reduceAdd,reduceMul,reduceSub,i1,i2,w1,hsub] <;> rfl) (by exact ⟨Nat.zero_le _, ⟨rfl, .inl ⟨rfl, rfl⟩, .inl ⟨rfl, rfl⟩, fun _ _ e => (by cases e), fun _ _ e => (by cases e), fun _ _ _ _ _ e => (by cases e)⟩⟩) ?_
  rintro ⟨k, cd, kd, bs⟩ ⟨hk, hI⟩
  simp only at hk hI ⊢
  by_cases h1 : k < w
  · have hl : ((k : Int) < (w : Int)) = True := eq_true (by omega)
    have hwk := wrap_nat k (by omega)
    have ha := wrap_add (offW W src) k (by omega)
    have hq0 := hI.q0
    have hgk := hg ⟨bs, tk⟩ k hq0
    rw [hq] at hq0
    have hI2 := hI.grow [.int .i64 ((offW W src + k : Nat) : Int)]
    generalize hbs2 : bs ++ [[D.int .i64 ((offW W src + k : Nat) : Int)]] = bs2 at *
    have hco := hI.cb.ok
    have hko := hI.kb.ok
    cases hgx : g k with
    | none =>
      rw [hgx] at hgk
      simp only [gvT, zeroE] at hgk
      refine gw (an i1 (an i2 (an w1 (an hsub (an hl (an hwk (an ha (an hq0 hgk)))))))) ?_
      refine ⟨(k + 1, cd, kd, bs2), by simp +decide only[go_sem,reduceAdd,reduceMul,reduceSub,i1,i2,w1,hsub,hl,hwk,ha,hq0] <;> rfl, ⟨by simp only; omega, ?_⟩, by simp only; omega⟩
      simp only [ksF, hgx]; exact hI2
    | some x =>
      rw [hgx] at hgk
      have hx := root_eq x
      simp only [ExR_eq] at hx
      simp only [gvT, hx] at hgk
      have hlen := ksF_len g k
      obtain ⟨bs3, bs4, p1, p2, p3, p4⟩ := hI2.app (tk := tk) (k, x) (by rw [← hbs2]; simp)
      have e1 := hI2.cb.elems (tk := tk) cD_len cD_mk
      have hle : ((ksF g k).length + 1 ≤ 16777216) = True := eq_true (by omega)
      simp only [cD, kD, hx] at p1 p3
      repeat (first|(with_reducible first|refine q1 ?_|refine q2 ?_|refine q3 ?_|refine q4 ?_|refine q5 ?_|refine q6 ?_|refine q7 ?_|refine q8 ?_|refine q9 ?_|refine q10 ?_|refine q11 ?_|refine q12 (by decide) ?_)|((first|with_reducible refine q13 ?_|((with_reducible refine q14 ?_ ?_);focus exact rfl));intro K hK;simp +decide only[go_sem,reduceAdd,reduceMul,reduceSub,i1,i2,w1,hsub,hl,hwk,ha,hq0,hgk,e1,p1,p2,p3,hle,List.length_map];with_reducible refine hK _ ?_;clear hK K)|(with_reducible refine q15 ?_;intro K J hK hJ;simp +decide only[go_sem,reduceAdd,reduceMul,reduceSub,i1,i2,w1,hsub,hl,hwk,ha,hq0,hgk,e1,p1,p2,p3,hle,List.length_map];(with_reducible first|refine hK ?_|refine hJ ?_);clear hK hJ K J))
      refine ⟨(k + 1, _, _, bs4), by simp +decide only[go_sem,reduceAdd,reduceMul,reduceSub,i1,i2,w1,hsub,hl,hwk,ha,hq0] <;> rfl, ⟨by simp only; omega, ?_⟩, by simp only; omega⟩
      simp only [ksF, hgx]; exact p4
  · have hl : ((k : Int) < (w : Int)) = False := eq_false (by omega)
    obtain rfl : k = w := by omega
    refine gw (an i1 (an i2 (an w1 (an hsub hl)))) ?_
    simp +decide only[go_sem,reduceAdd,reduceMul,reduceSub,i1,i2,w1,hsub]
    first | exact ⟨_, _, _, rfl, rfl, hI⟩ | exact ⟨_, _, _, ⟨rfl, rfl⟩, rfl, hI⟩
end Go.Eng
