/- A part of the proof: see the last text. -/
import Derived.Test.YtcfmjomniaopcaaDoorKR2Pg
import Derived.Test.YtcfmjomniaopcaaDoorR2Copy
set_option linter.unusedSimpArgs false
set_option linter.unusedVariables false
/- The program's keys. -/
namespace Go.Eng
open Go Go.Proofs
open Nat (reduceAdd reduceMul reduceSub)
set_option maxRecDepth 20000
set_option maxHeartbeats 32000000
def stK (W : List Nat) (k : Nat) : List D := (List.range (k + 1)).map fun i => .int .i64 (offW W i : Nat)
theorem stK_last (W : List Nat) (k : Nat) : (stK W k)[k]? = some (.int .i64 (offW W k : Nat)) := by
  unfold stK; rw [List.getElem?_map, List.getElem?_range (by omega)]; rfl
theorem stK_succ (W : List Nat) (k : Nat) : stK W (k + 1) = stK W k ++ [.int .i64 (offW W (k + 1) : Nat)] := by
  unfold stK; rw [List.range_succ, List.map_append]; rfl
theorem stK_len (W : List Nat) (k : Nat) : (stK W k).length = k + 1 := by simp [stK]
def tgK : Nat → Option Nat
  | 0 => some 0
  | _ + 1 => some 1
def tkK : Nat → List Nat
  | 0 => []
  | k + 1 => [k + 2]
theorem app_stK (W : List Nat) (k : Nat) (bx : List (List D)) (x : D) : appendD 1 ⟨bx, tkK k⟩ (.slice (tgK k) 1 (stK W k)) [x] = some (.slice (some 1) 1 (stK W k ++ [x]), ⟨bx, [k + 2]⟩) := by
  cases k with
  | zero => simp [appendD, tgK, tkK, stK_len]
  | succ k => simp [appendD, tgK, tkK, stK_len]
theorem of47 (s : Sl Tbl) (b : Bnd) (W : List Nat) (h : WOK s.items b.tabs.items W) (h0 : W ≠ []) (c : Sl Ex) (hc : callP (XG GK) TT 90 [b.w.enc] = some (sl 8 encEx c)) :
    callR (XG GK) TT 47 ⟨[], []⟩ [sl 5 encTbl s, encBnd b] = some (.ptr 0 0, ⟨[qC s b (some 1) W c], [W.length + 1]⟩) := by
  refine callR_val T47 rfl ?_
  unfold Tryd.f47
  simp only [Option.getD_some]
  have hW := h.len
  have hf := h.few
  simp only [ExR_eq] at hc
  simp +decide only[go_sem,reduceAdd,reduceMul,reduceSub,hc]
  refine gw hc ?_
  refine wpI_loopC (T := Nat) [0, 5, 18, 19, 20] rfl (by simp +decide only[go_sem,reduceAdd,reduceMul,reduceSub,hc]; exact rfl) (fun k => [(20, .int .i64 (k : Int))]) (fun _ => []) (fun k => ⟨[[sl 5 encTbl s, .int .i64 5, .str [], .nil, .nil, .nil, .nil, .nil, .nil, .nil, sl 2 encSrc b.src, .int .i64 b.w.a.1, .str b.w.s, .str b.w.t, .int .i64 b.w.b.1, .int .i64 b.w.c.1, .int .i64 b.w.d.1, .str b.w.u, sl 8 encEx b.w.args, .nil, .nil, .int .i64 0, .str [], .int .i64 0, sl 1 I b.tabs, sl 5 vr b.vars, .nil, .slice (tgK k) 1 (stK W k), sl 8 encEx c]], tkK k⟩) (fun k => k ≤ W.length) (fun k => W.length - k) 0 (by simp +decide only[go_sem,reduceAdd,reduceMul,reduceSub,hc] <;> rfl) (by simp) ?_
  rintro k hk
  by_cases h1 : k < b.tabs.items.length
  · obtain ⟨v, t, w, g1, g2, g3, g4, g5⟩ := h.at (i := k) (by omega)
    have hl : ((k : Int) < (b.tabs.items.length : Int)) = True := eq_true (by omega)
    have ho := h.off k (by omega)
    have hw := wrap_nat k (by omega)
    have ha := wrap_add (offW W k) w (by omega)
    rw [← offW_succ g3] at ha
    have hs := stK_last W k
    have hle : (k + 1 + 1 ≤ 16777216) = True := eq_true (by omega)
    have hsl := stK_len W k
    have hap := app_stK W k
    refine gw (an hc (an hl (an g1 (an g2 (an g4 (an ha (an hw (an hs (an hle (an hsl hap)))))))))) ?_
    exact ⟨k + 1, by simp +decide only[go_sem,reduceAdd,reduceMul,reduceSub,hc,hl,g1,g2,g4,ha,hw,hs,hle,hsl,hap,stK_succ,tgK,tkK] <;> rfl, by omega, by omega⟩
  · have hl : ((k : Int) < (b.tabs.items.length : Int)) = False := eq_false (by omega)
    obtain rfl : k = W.length := by omega
    refine gw (an hc hl) ?_
    simp +decide only[go_sem,reduceAdd,reduceMul,reduceSub,hc]
    obtain ⟨n, hn⟩ : ∃ n, W.length = n + 1 := ⟨W.length - 1, by have : W.length ≠ 0 := fun e => h0 (List.eq_nil_of_length_eq_zero e); omega⟩
    simp only [qC, stL, stK, hn, tgK, tkK]
    simp
/-- A slice over a box of its own. -/
def BoxL (bs : List (List D)) (k : Nat) (d : D) (es : List D) : Prop := (d = .nil ∧ es = []) ∨ ∃ id, d = .rsl id 0 es.length k ∧ bs[id]? = some (flat es) ∧ es ≠ []
theorem BoxL.ok {bs : List (List D)} {k : Nat} {d : D} {es : List D} (h : BoxL bs k d es) : d.okC = true := by
  rcases h with ⟨rfl, _⟩ | ⟨_, rfl, _⟩ <;> rfl
theorem BoxL.cells {bs : List (List D)} {k : Nat} {d : D} {es : List D} (h : BoxL bs k d es) : d.cells = [d] := by
  rcases h with ⟨rfl, _⟩ | ⟨_, rfl, _⟩ <;> rfl
theorem BoxL.elems {bs : List (List D)} {tk : List Nat} {k : Nat} {d : D} {α : Type} {f : α → D} {l : List α} (h : BoxL bs k d (l.map f)) (hk : ∀ a, (f a).cells.length = k) (hm : ∀ a, mkEl k (f a).cells = f a) : elemsOf ⟨bs, tk⟩ k d = some (l.map f) := by
  rcases h with ⟨rfl, h⟩ | ⟨id, rfl, h, _⟩
  · rw [h]; rfl
  · have hf : (flat (l.map f)).length = l.length * k := by
      rw [flat_len (k := k) (fun d hd => by obtain ⟨a, _, rfl⟩ := List.mem_map.1 hd; exact hk a), List.length_map]
    simp only [elemsOf, elemsR, h, List.length_map, hf, decide_true, cond_true, Nat.zero_add, Nat.le_refl, List.drop_zero, chunks_flat hk hm]
theorem BoxL.app {bs : List (List D)} {tk : List Nat} {k : Nat} {d : D} {es : List D} (h : BoxL bs k d es) (hk : ∀ x ∈ es, x.cells.length = k) (x : D) :
    ∃ bs', appendB k ⟨bs, tk⟩ d es [x] = some (.rsl bs.length 0 (es.length + 1) k, ⟨bs', tk⟩) ∧ BoxL bs' k (.rsl bs.length 0 (es.length + 1) k) (es ++ [x]) ∧ bs'.length = bs.length + 1 ∧ ∀ i c, bs[i]? = some c → (∀ n, d ≠ .rsl i 0 n k) → bs'[i]? = some c := by
  rcases h with ⟨rfl, rfl⟩ | ⟨id, rfl, h, h0⟩
  · refine ⟨bs ++ [flat [x]], rfl, .inr ⟨bs.length, rfl, by simp, by simp⟩, by simp, fun i c hc _ => ?_⟩
    rw [List.getElem?_append_left (List.getElem?_eq_some_iff.1 hc).1]; exact hc
  · have hf : (flat es).length = es.length * k := flat_len hk
    have h1 : 0 < es.length := List.length_pos_iff.2 h0
    refine ⟨bs.set id [] ++ [flat (es ++ [x])], ?_, .inr ⟨bs.length, by simp, by simp, by simp⟩, by simp, fun i c hc hd => ?_⟩
    · simp [appendB, h, hf, h1]
    · have hi : id ≠ i := fun e => hd es.length (by rw [e])
      rw [List.getElem?_append_left (by rw [List.length_set]; exact (List.getElem?_eq_some_iff.1 hc).1), List.getElem?_set_ne hi]; exact hc
theorem BoxL.keep {bs bs' : List (List D)} {k : Nat} {d : D} {es : List D} (h : BoxL bs k d es) (hb : ∀ i c n, d = .rsl i 0 n k → bs[i]? = some c → bs'[i]? = some c) : BoxL bs' k d es := by
  rcases h with h | ⟨id, h1, h2, h3⟩
  · exact .inl h
  · exact .inr ⟨id, h1, hb id _ _ h1 h2, h3⟩
/-- The keys that are found among the first k columns. -/
def ksF (g : Nat → Option Ex) : Nat → List (Nat × Ex)
  | 0 => []
  | k + 1 => match g k with
    | some x => ksF g k ++ [(k, x)]
    | none => ksF g k
def cD (p : Nat × Ex) : D := .int .i64 (p.1 : Int)
def kD (p : Nat × Ex) : D := encEx p.2
structure KInv (q : List D) (bs : List (List D)) (c k : D) (l : List (Nat × Ex)) : Prop where
  q0 : bs[0]? = some q
  cb : BoxL bs 1 c (l.map cD)
  kb : BoxL bs 8 k (l.map kD)
  c0 : ∀ n k', c ≠ .rsl 0 0 n k'
  k0 : ∀ n k', k ≠ .rsl 0 0 n k'
  ck : ∀ i n n' k' k'', c = .rsl i 0 n k' → k ≠ .rsl i 0 n' k''
theorem KInv.grow {q : List D} {bs : List (List D)} {c k : D} {l : List (Nat × Ex)} (h : KInv q bs c k l) (x : List D) : KInv q (bs ++ [x]) c k l := by
  have hb : ∀ (i : Nat) (c : List D), bs[i]? = some c → (bs ++ [x])[i]? = some c := fun i c hc => by
    rw [List.getElem?_append_left (List.getElem?_eq_some_iff.1 hc).1]; exact hc
  exact ⟨hb _ _ h.q0, h.cb.keep fun i c n _ hc => hb i c hc, h.kb.keep fun i c n _ hc => hb i c hc, h.c0, h.k0, h.ck⟩
theorem cD_len (p : Nat × Ex) : (cD p).cells.length = 1 := rfl
theorem kD_len (p : Nat × Ex) : (kD p).cells.length = 8 := ex_len p.2
theorem kD_mk (p : Nat × Ex) : mkEl 8 (kD p).cells = kD p := ex_mk p.2
theorem map_len {α : Type} {f : α → D} {k : Nat} (h : ∀ a, (f a).cells.length = k) (l : List α) : ∀ d ∈ l.map f, d.cells.length = k := fun d hd => by
  obtain ⟨a, _, rfl⟩ := List.mem_map.1 hd; exact h a
/-- One key more. -/
theorem KInv.app {q : List D} {bs : List (List D)} {tk : List Nat} {c k : D} {l : List (Nat × Ex)} (h : KInv q bs c k l) (p : Nat × Ex) (hpos : 0 < bs.length) :
    ∃ bs1 bs2, appendB 1 ⟨bs, tk⟩ c (l.map cD) [cD p] = some (.rsl bs.length 0 (l.length + 1) 1, ⟨bs1, tk⟩) ∧ elemsOf ⟨bs1, tk⟩ 8 k = some (l.map kD) ∧
      appendB 8 ⟨bs1, tk⟩ k (l.map kD) [kD p] = some (.rsl (bs.length + 1) 0 (l.length + 1) 8, ⟨bs2, tk⟩) ∧ KInv q bs2 (.rsl bs.length 0 (l.length + 1) 1) (.rsl (bs.length + 1) 0 (l.length + 1) 8) (l ++ [p]) := by
  obtain ⟨bs1, h1, h2, h3, h4⟩ := h.cb.app (tk := tk) (map_len cD_len l) (cD p)
  rw [List.length_map] at h1 h2
  have hkb : BoxL bs1 8 k (l.map kD) := h.kb.keep fun i c' n e hc => h4 i c' hc fun n' e' => h.ck i n' n 1 8 e' e
  obtain ⟨bs2, g1, g2, g3, g4⟩ := hkb.app (tk := tk) (map_len kD_len l) (kD p)
  rw [List.length_map, h3] at g1 g2
  refine ⟨bs1, bs2, h1, hkb.elems kD_len kD_mk, g1, ⟨?_, ?_, ?_, ?_, ?_, ?_⟩⟩
  · exact g4 0 _ (h4 0 _ h.q0 fun n e => h.c0 n 1 e) fun n e => h.k0 n 8 e
  · rw [List.map_append]
    refine h2.keep fun i c' n e hc => g4 i c' hc fun n' e' => ?_
    simp only [D.rsl.injEq] at e
    rw [← e.1] at e'
    have hb : bs[bs.length]? = none := by simp
    rcases h.kb with ⟨e1, _⟩ | ⟨id, e1, e2, _⟩
    · rw [e1] at e'; cases e'
    · rw [e1] at e'; simp only [D.rsl.injEq] at e'; rw [e'.1, hb] at e2; cases e2
  · rw [List.map_append]; exact g2
  · intro n k' e; simp only [D.rsl.injEq] at e; omega
  · intro n k' e; simp only [D.rsl.injEq] at e; omega
  · intro i n n' k' k'' e e'
    simp only [D.rsl.injEq] at e e'; omega
end Go.Eng
