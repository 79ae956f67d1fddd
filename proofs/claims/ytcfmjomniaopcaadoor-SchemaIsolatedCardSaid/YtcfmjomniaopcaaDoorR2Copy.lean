/- A part of the proof: see the last text. -/
import Derived.Test.YtcfmjomniaopcaaDoorR2Ex2
import Derived.Test.YtcfmjomniaopcaaDoorKEngA2
set_option linter.unusedSimpArgs false
set_option linter.unusedVariables false
/- copyExpr returns the same expression. -/
namespace Go.Eng
open Go Go.Proofs
open Nat (reduceAdd reduceMul reduceSub)
set_option maxRecDepth 20000
set_option maxHeartbeats 32000000
attribute [local irreducible] wpI endP
theorem ex_mk (e : Ex) : mkEl 8 (encEx e).cells = encEx e := by
  obtain ⟨r, he, _⟩ := e.open
  rw [he]; rfl
theorem ex_strip (g : Nat → Nat → Nat → Nat → D) (e : Ex) : stripFL g (encEx e).cells = (encEx e).cells := by
  obtain ⟨r, he, _⟩ := e.open
  rw [he]
  simp only [ExR.enc, cells_agg, stripFL_cons, go_sem]
theorem clone92 (s : Sl Ex) (m : Mem) (hs : s.items.length ≤ 100) : callR (XG GK) TT 100092 m [sl 8 encEx s] = some (match s.items with
    | [] => ((match s.isNil with | true => .nil | false => .slice (some 0) 8 []), m)
    | _ :: _ => (.rsl m.boxes.length 0 s.items.length 8, ⟨m.boxes ++ [flat (s.items.map encEx)], m.toks⟩)) := by
  obtain ⟨o, ho⟩ := s
  cases o with
  | none =>
    refine callR_val T100092 rfl ?_
    unfold Tryd.f92
    simp only [Option.getD_some, sl, Sl.items, Sl.isNil]
    simp +decide only[go_sem,reduceAdd,reduceMul,reduceSub]
    refine gw trivial ?_
    simp +decide only[go_sem,reduceAdd,reduceMul,reduceSub]
    exact ⟨rfl, trivial⟩
  | some l =>
    refine callR_val T100092 rfl ?_
    unfold Tryd.f92
    have hl : (l.length ≤ 16777216) = True := eq_true (by simp only [Sl.items, Option.getD_some] at hs; omega)
    simp only [Option.getD_some, sl, Sl.items, Sl.isNil]
    cases l with
    | nil =>
      simp only [List.map_nil]
      simp +decide only[go_sem,reduceAdd,reduceMul,reduceSub,hl,List.length_map]
      repeat (first|(with_reducible first|refine q1 ?_|refine q2 ?_|refine q3 ?_|refine q4 ?_|refine q5 ?_|refine q6 ?_|refine q7 ?_|refine q8 ?_|refine q9 ?_|refine q10 ?_|refine q11 ?_|refine q12 (by decide) ?_)|((first|with_reducible refine q13 ?_|((with_reducible refine q14 ?_ ?_);focus exact rfl));intro K hK;simp +decide only[go_sem,reduceAdd,reduceMul,reduceSub,hl,List.length_map];with_reducible refine hK _ ?_;clear hK K)|(with_reducible refine q15 ?_;intro K J hK hJ;simp +decide only[go_sem,reduceAdd,reduceMul,reduceSub,hl,List.length_map];(with_reducible first|refine hK ?_|refine hJ ?_);clear hK hJ K J))
      simp +decide only[go_sem,reduceAdd,reduceMul,reduceSub,hl,List.length_map]
      exact ⟨rfl, trivial⟩
    | cons a r =>
      simp only [List.map_cons]
      have hl2 : (r.length + 1 ≤ 16777216) = True := hl
      simp +decide only[go_sem,reduceAdd,reduceMul,reduceSub,hl,List.length_map]
      repeat (first|(with_reducible first|refine q1 ?_|refine q2 ?_|refine q3 ?_|refine q4 ?_|refine q5 ?_|refine q6 ?_|refine q7 ?_|refine q8 ?_|refine q9 ?_|refine q10 ?_|refine q11 ?_|refine q12 (by decide) ?_)|((first|with_reducible refine q13 ?_|((with_reducible refine q14 ?_ ?_);focus exact rfl));intro K hK;simp +decide only[go_sem,reduceAdd,reduceMul,reduceSub,hl,List.length_map,hl2,List.length_cons,List.nil_append];with_reducible refine hK _ ?_;clear hK K)|(with_reducible refine q15 ?_;intro K J hK hJ;simp +decide only[go_sem,reduceAdd,reduceMul,reduceSub,hl,List.length_map,hl2,List.length_cons,List.nil_append];(with_reducible first|refine hK ?_|refine hJ ?_);clear hK hJ K J))
      simp +decide only[go_sem,reduceAdd,reduceMul,reduceSub,hl,List.length_map]
theorem copy_step (e : Ex) (r : ExR) (he : encEx e = r.enc) (h8 : r.args.items.length ≤ 8) (ih : ∀ x ∈ r.args.items, callP (XG GK) TT 103 [encEx x] = some (encEx x)) : callP (XG GK) TT 103 [encEx e] = some (encEx e) := by
  rw [he]
  refine callP_val T103 rfl (by simp only [go_sem, strip_ExR]) ?_
  unfold Tryd.f103
  simp only [Option.getD_some]
  have hc := clone92 r.args ⟨[], []⟩ (by omega)
  obtain ⟨a, s1, s2, b, c, d, u, args⟩ := r
  simp only at *
  obtain ⟨o, ho⟩ := args
  cases o with
  | none =>
    simp only [sl, Sl.items, Sl.isNil, Option.getD_none, Option.isNone_none] at hc
    have hst : stripFL noR [D.nil] = [D.nil] := rfl
    have hn : sl 8 encEx ⟨none, ho⟩ = .nil := rfl
    simp +decide only[go_sem,reduceAdd,reduceMul,reduceSub,hn,hc]
    refine gw (an hn hc) ?_
    refine wpI_loopC (T := Nat) [1, 2, 10, 11] rfl (by simp +decide only[go_sem,reduceAdd,reduceMul,reduceSub,hn,hc]; exact rfl) (fun k => [(11, .int .i64 (k : Int))]) (fun _ => []) (fun _ => ⟨[], []⟩) (fun k => k = 0) (fun k => 0) 0 (by simp +decide only[go_sem,reduceAdd,reduceMul,reduceSub,hn,hc] <;> rfl) (by simp) ?_
    rintro k rfl
    refine gw (an hn hc) ?_
    simp +decide only[go_sem,reduceAdd,reduceMul,reduceSub,hn,hc]
  | some l =>
    cases l with
    | nil =>
      simp only [sl, Sl.items, Sl.isNil, Option.getD_some, Option.isNone_some, List.map_nil] at hc
      have hn : sl 8 encEx ⟨some [], ho⟩ = .slice none 8 [] := rfl
      simp +decide only[go_sem,reduceAdd,reduceMul,reduceSub,hn,hc,List.length_nil]
      repeat (first|(with_reducible first|refine q1 ?_|refine q2 ?_|refine q3 ?_|refine q4 ?_|refine q5 ?_|refine q6 ?_|refine q7 ?_|refine q8 ?_|refine q9 ?_|refine q10 ?_|refine q11 ?_|refine q12 (by decide) ?_)|((first|with_reducible refine q13 ?_|((with_reducible refine q14 ?_ ?_);focus exact rfl));intro K hK;simp +decide only[go_sem,reduceAdd,reduceMul,reduceSub,hn,hc,List.length_nil];with_reducible refine hK _ ?_;clear hK K)|(with_reducible refine q15 ?_;intro K J hK hJ;simp +decide only[go_sem,reduceAdd,reduceMul,reduceSub,hn,hc,List.length_nil];(with_reducible first|refine hK ?_|refine hJ ?_);clear hK hJ K J))
      refine wpI_loopC (T := Nat) [1, 2, 10, 11] rfl (by simp +decide only[go_sem,reduceAdd,reduceMul,reduceSub,hn,hc,List.length_nil]; exact rfl) (fun k => [(11, .int .i64 (k : Int))]) (fun _ => []) (fun _ => ⟨[], []⟩) (fun k => k = 0) (fun k => 0) 0 (by simp +decide only[go_sem,reduceAdd,reduceMul,reduceSub,hn,hc,List.length_nil] <;> rfl) (by simp) ?_
      rintro k rfl
      repeat (first|(with_reducible first|refine q1 ?_|refine q2 ?_|refine q3 ?_|refine q4 ?_|refine q5 ?_|refine q6 ?_|refine q7 ?_|refine q8 ?_|refine q9 ?_|refine q10 ?_|refine q11 ?_|refine q12 (by decide) ?_)|((first|with_reducible refine q13 ?_|((with_reducible refine q14 ?_ ?_);focus exact rfl));intro K hK;simp +decide only[go_sem,reduceAdd,reduceMul,reduceSub,hn,hc,List.length_nil];with_reducible refine hK _ ?_;clear hK K)|(with_reducible refine q15 ?_;intro K J hK hJ;simp +decide only[go_sem,reduceAdd,reduceMul,reduceSub,hn,hc,List.length_nil];(with_reducible first|refine hK ?_|refine hJ ?_);clear hK hJ K J))
      simp +decide only[go_sem,reduceAdd,reduceMul,reduceSub,hn,hc,List.length_nil]
    | cons y ys =>
      generalize hl : y :: ys = l at *
      have hc : callR (XG GK) TT 100092 ⟨[], []⟩ [.slice none 8 (l.map encEx)] = some (.rsl 0 0 l.length 8, ⟨[flat (l.map encEx)], []⟩) := by
        subst hl; exact hc
      have hn : sl 8 encEx ⟨some l, ho⟩ = .slice none 8 (l.map encEx) := rfl
      have h8 : l.length ≤ 8 := h8
      have ih : ∀ x ∈ l, callP (XG GK) TT 103 [encEx x] = some (encEx x) := ih
      have hf : (flat (l.map encEx)).length = l.length * 8 := by
        rw [flat_len (k := 8) (fun d hd => by obtain ⟨a, _, rfl⟩ := List.mem_map.1 hd; exact ex_len a), List.length_map]
      simp +decide only[go_sem,reduceAdd,reduceMul,reduceSub,hn,hc]
      refine gw (an hn hc) ?_
      refine wpI_loopC (T := Nat) [1, 2, 10, 11] rfl (by simp +decide only[go_sem,reduceAdd,reduceMul,reduceSub,hn,hc]; exact rfl) (fun k => [(11, .int .i64 (k : Int))]) (fun _ => []) (fun _ => ⟨[flat (l.map encEx)], []⟩) (fun k => k ≤ l.length) (fun k => l.length - k) 0 (by simp +decide only[go_sem,reduceAdd,reduceMul,reduceSub,hn,hc] <;> rfl) (by simp) ?_
      rintro k hk
      by_cases h : k < l.length
      · have l_x : ((k : Int) < ((l).length : Int)) = True := by simp; omega
        obtain ⟨x, g_x⟩ : ∃ a_, (l)[k]? = some a_ := ⟨_, List.getElem?_eq_getElem (by assumption)⟩
        have w_x := wrap_nat k (by omega)
        have hx := ih x (List.mem_of_getElem? g_x)
        have hd := flat_cut (k := 8) (l := l.map encEx) (i := k) (x := encEx x) (fun d hd => by obtain ⟨a, _, rfl⟩ := List.mem_map.1 hd; exact ex_len a) (by simp [g_x])
        have ha : D.agg (encEx x).cells = encEx x := by
          obtain ⟨r, he, _⟩ := x.open
          rw [he]; rfl
        have hk8 : (k * 8 + 8 ≤ l.length * 8) = True := eq_true (by omega)
        have hok : (encEx x).okC = true := by
          obtain ⟨r, he, _⟩ := x.open
          rw [he]; rfl
        have hset : setRow (flat (l.map encEx)) (k * 8) (encEx x).cells = flat (l.map encEx) := setRow_same _ _ _ (by rw [ex_len]; exact hd)
        refine gw (an hn (an hc (an l_x (an g_x (an w_x (an hx (an hd (an ha (an hf (an hk8 (an hok hset))))))))))) ?_
        exact ⟨k + 1, by simp +decide only[go_sem,reduceAdd,reduceMul,reduceSub,hn,hc,l_x,g_x,w_x,hx,hd,ha,hf,hk8,hok,hset] <;> rfl, by omega, by omega⟩
      · have l_x : ((k : Int) < ((l).length : Int)) = False := by simp; omega
        have hfz : frzM ⟨[flat (l.map encEx)], []⟩ 1 0 0 l.length 8 = .slice none 8 (l.map encEx) := frz_rsl (m := ⟨[flat (l.map encEx)], []⟩) rfl rfl ex_len ex_mk ex_strip
        refine gw (an hn (an hc l_x)) ?_
        simp +decide only[go_sem,reduceAdd,reduceMul,reduceSub,hn,hc,l_x,hfz]
theorem copy_n : ∀ (N : Nat) (e : Ex), SizeOf.sizeOf (encEx e) < N → FineE (encEx e) → callP (XG GK) TT 103 [encEx e] = some (encEx e)
  | 0, e, h, _ => absurd h (Nat.not_lt_zero _)
  | N + 1, e, h, hf => by
    obtain ⟨r, he, hs⟩ := e.open
    have : r.args.items.length ≤ 8 ∧ ∀ x ∈ r.args.items, FineE (encEx x) := by
      generalize hd : encEx e = d at hf
      cases hf with
      | mk r' h8 hk =>
        have e2 : sl 8 encEx r.args = sl 8 encEx r'.args := by
          have := he.symm.trans hd
          simp only [ExR.enc, D.agg.injEq, List.cons.injEq, and_true] at this
          exact this.2.2.2.2.2.2.2
        have e3 : r.args.items.map encEx = r'.args.items.map encEx := by
          have := congrArg (elemsOf ⟨[], []⟩ 8) e2
          simpa only [elems_sl, Option.some.injEq] using this
        have e4 : r.args.items = r'.args.items := by
          refine List.map_inj_right (f := encEx) (fun x y h => Subtype.ext h) |>.1 e3
        rw [e4]; exact ⟨h8, hk⟩
    exact copy_step e r he this.1 fun x hx => copy_n N x (by have := hs x hx; omega) (this.2 x hx)
theorem copy103 (e : Ex) (h : FineE (encEx e)) : callP (XG GK) TT 103 [encEx e] = some (encEx e) := copy_n _ e (Nat.lt_succ_self _) h
end Go.Eng
