/- A part of the proof: see the last text. -/
import Derived.Test.YtcfmjomniaopcaaGreatDoorR2Stm
import Derived.Test.YtcfmjomniaopcaaGreatDoorR2Awake
set_option linter.unusedSimpArgs false
set_option linter.unusedVariables false
/- SchemaStatement. -/
namespace Go.Eng
open Go Go.Proofs
open Nat (reduceAdd reduceMul reduceSub)
set_option maxRecDepth 20000
set_option maxHeartbeats 32000000
theorem law3 (s : Sl Tbl) (n : Int) : callP (XG GK) TT 3 [sl 5 encTbl s, .int .i64 n] = some (.bool true) := by
  refine callP_val T3 rfl (by simp only [go_sem]) ?_
  unfold Tryz.f3
  simp only [Option.getD_some]
  obtain ⟨b, hb, hsm⟩ := smallT (G := GK) s
  simp +decide only[go_sem,reduceAdd,reduceMul,reduceSub]
  refine gw trivial ?_
  cases b
  · repeat (first|(with_reducible first|refine q1 ?_|refine q2 ?_|refine q3 ?_|refine q4 ?_|refine q5 ?_|refine q6 ?_|refine q7 ?_|refine q8 ?_|refine q9 ?_|refine q10 ?_|refine q11 ?_|refine q12 (by decide) ?_)|((first|with_reducible refine q13 ?_|((with_reducible refine q14 ?_ ?_);focus exact rfl));intro K hK;simp +decide only[go_sem,reduceAdd,reduceMul,reduceSub,awake,hb];with_reducible refine hK _ ?_;clear hK K)|(with_reducible refine q15 ?_;intro K J hK hJ;simp +decide only[go_sem,reduceAdd,reduceMul,reduceSub,awake,hb];(with_reducible first|refine hK ?_|refine hJ ?_);clear hK hJ K J))
    simp +decide only[go_sem,reduceAdd,reduceMul,reduceSub]
  obtain ⟨h1, h2⟩ := hsm rfl
  have hslt := s.lt
  have c38 := valid38 s h2
  have c39 := val39 s h2 h1
  rw [← valid_same h2] at c39
  have hvd : (decide (s.items.length ≤ 8) && valL s.items 0 s.items) = true → _ := fun h => And.intro (restored h2 h) (And.intro (stS_small h2 h) (show valL s.items 0 s.items = true by rw [Bool.and_eq_true] at h; exact h.2))
  generalize (decide (s.items.length ≤ 8) && valL s.items 0 s.items) = val at *
  have hz : encStm zeroS = .agg [.int .i64 0, .str [], .nil, .nil, .nil, .nil, .nil, .nil, .nil, .nil, .int .i64 0, .str [], .str [], .int .i64 0, .int .i64 0, .int .i64 0, .str [], .nil, .nil, .nil, .int .i64 0, .str []] := rfl
  have c8z := create8 zeroS zeroS (alikeS_refl zeroS)
  have c6z := fun h => stm6_no s n val c38 h
  rw [hz] at c8z
  simp only [hz] at c6z
  cases val with
  | false =>
    have c6 := c6z (.inr (.inr rfl))
    repeat (first|(with_reducible first|refine q1 ?_|refine q2 ?_|refine q3 ?_|refine q4 ?_|refine q5 ?_|refine q6 ?_|refine q7 ?_|refine q8 ?_|refine q9 ?_|refine q10 ?_|refine q11 ?_|refine q12 (by decide) ?_)|((first|with_reducible refine q13 ?_|((with_reducible refine q14 ?_ ?_);focus exact rfl));intro K hK;simp +decide only[go_sem,reduceAdd,reduceMul,reduceSub,awake,hb,c39,c6,c8z];with_reducible refine hK _ ?_;clear hK K)|(with_reducible refine q15 ?_;intro K J hK hJ;simp +decide only[go_sem,reduceAdd,reduceMul,reduceSub,awake,hb,c39,c6,c8z];(with_reducible first|refine hK ?_|refine hJ ?_);clear hK hJ K J))
    simp +decide only[go_sem,reduceAdd,reduceMul,reduceSub,awake,hb,c39]
  | true =>
  by_cases n1 : n < 0
  · have c6 := c6z (.inl n1)
    repeat (first|(with_reducible first|refine q1 ?_|refine q2 ?_|refine q3 ?_|refine q4 ?_|refine q5 ?_|refine q6 ?_|refine q7 ?_|refine q8 ?_|refine q9 ?_|refine q10 ?_|refine q11 ?_|refine q12 (by decide) ?_)|((first|with_reducible refine q13 ?_|((with_reducible refine q14 ?_ ?_);focus exact rfl));intro K hK;simp +decide only[go_sem,reduceAdd,reduceMul,reduceSub,awake,hb,c39,n1,c6,c8z];with_reducible refine hK _ ?_;clear hK K)|(with_reducible refine q15 ?_;intro K J hK hJ;simp +decide only[go_sem,reduceAdd,reduceMul,reduceSub,awake,hb,c39,n1,c6,c8z];(with_reducible first|refine hK ?_|refine hJ ?_);clear hK hJ K J))
    simp +decide only[go_sem,reduceAdd,reduceMul,reduceSub,awake,hb,c39,n1]
  by_cases n2 : (s.items.length : Int) ≤ n
  · have c6 := c6z (.inr (.inl n2))
    repeat (first|(with_reducible first|refine q1 ?_|refine q2 ?_|refine q3 ?_|refine q4 ?_|refine q5 ?_|refine q6 ?_|refine q7 ?_|refine q8 ?_|refine q9 ?_|refine q10 ?_|refine q11 ?_|refine q12 (by decide) ?_)|((first|with_reducible refine q13 ?_|((with_reducible refine q14 ?_ ?_);focus exact rfl));intro K hK;simp +decide only[go_sem,reduceAdd,reduceMul,reduceSub,awake,hb,c39,n1,n2,c6,c8z];with_reducible refine hK _ ?_;clear hK K)|(with_reducible refine q15 ?_;intro K J hK hJ;simp +decide only[go_sem,reduceAdd,reduceMul,reduceSub,awake,hb,c39,n1,n2,c6,c8z];(with_reducible first|refine hK ?_|refine hJ ?_);clear hK hJ K J))
    simp +decide only[go_sem,reduceAdd,reduceMul,reduceSub,awake,hb,c39,n1,n2]
  clear c6z c8z
  obtain ⟨⟨r, hr1, hr2, hr3⟩, hsmall, hval⟩ := hvd rfl
  have hins := valL_ins _ _ hval
  have hst : ∀ (i : Nat) (u : Tbl), s.items[i]? = some u → callP (XG GK) TT 6 [sl 5 encTbl s, .int .i64 (i : Int)] = some (.tuple [encStm (stS s.items u), .bool true]) := fun i u hu => by
    obtain ⟨k1, k2⟩ := insL_ok h2 hins hu
    have hvb := valL_at _ _ hval i u hu
    rw [Nat.zero_add] at hvb
    obtain ⟨⟨_, hc, _⟩, _⟩ := validB_iff.1 hvb
    exact stm6 s i u hu (h2 u (List.mem_of_getElem? hu)) c38 (fun e => by rw [e] at hc; simp at hc) k1 k2
  obtain ⟨k, rfl⟩ : ∃ k : Nat, n = k := ⟨n.toNat, by omega⟩
  obtain ⟨t, ht⟩ : ∃ t, s.items[k]? = some t := ⟨_, List.getElem?_eq_getElem (by omega)⟩
  have c6 := hst k t ht
  obtain ⟨k1, k2⟩ := insL_ok h2 hins ht
  have c9 := def81 (G := GK) s k t ht (h2 t (List.mem_of_getElem? ht)) k1 k2
  have c8 := create8 (stS s.items t) (defS s.items t) (alike_st s.items t)
  have hss := setStm (stS s.items t)
  have htk : ∀ x : Stm, List.take 16 x.rest.1 = x.rest.1 := fun x => List.take_of_length_le (by rw [rest_len]; exact Nat.le_refl _)
  simp only [encStm_eq] at c6 c8 c9
  repeat (first|(with_reducible first|refine q1 ?_|refine q2 ?_|refine q3 ?_|refine q4 ?_|refine q5 ?_|refine q6 ?_|refine q7 ?_|refine q8 ?_|refine q9 ?_|refine q10 ?_|refine q11 ?_|refine q12 (by decide) ?_)|((first|with_reducible refine q13 ?_|((with_reducible refine q14 ?_ ?_);focus exact rfl));intro K hK;simp +decide only[go_sem,reduceAdd,reduceMul,reduceSub,awake,hb,c39,n1,n2,c6,c8,c9,hss,htk];with_reducible refine hK _ ?_;clear hK K)|(with_reducible refine q15 ?_;intro K J hK hJ;simp +decide only[go_sem,reduceAdd,reduceMul,reduceSub,awake,hb,c39,n1,n2,c6,c8,c9,hss,htk];(with_reducible first|refine hK ?_|refine hJ ?_);clear hK hJ K J))
  refine wpI_loopC (T := Nat) [0, 8, 61, 62] rfl (by simp +decide only[go_sem,reduceAdd,reduceMul,reduceSub,awake,hb,c39,n1,n2,c6,c8,c9,hss,htk]; exact rfl) (fun k => [(62, .int .i64 (k : Int)), (8, accD 22 (((s.items.take k).map (stS s.items)).map encStm))]) (fun _ => []) (fun k => ⟨[], accT (((s.items.take k).map (stS s.items)).map encStm)⟩) (fun k => k ≤ s.items.length) (fun k => s.items.length - k) 0 (by simp +decide only[go_sem,reduceAdd,reduceMul,reduceSub,awake,hb,c39,n1,n2,c6,c8,c9,hss,htk] <;> rfl) (by simp) ?_
  rintro q hq
  by_cases h : q < s.items.length
  · have l_u : ((q : Int) < ((s.items).length : Int)) = True := by simp; omega
    obtain ⟨u, g_u⟩ : ∃ a_, (s.items)[q]? = some a_ := ⟨_, List.getElem?_eq_getElem (by assumption)⟩
    have w_u := wrap_nat q (by omega)
    have c7 := hst q u g_u
    have hs2 := setStm (stS s.items u)
    simp only [encStm_eq] at c7
    have hle : ((((s.items.take q).map (stS s.items)).map encStm).length + 1 ≤ 16777216) = True := by
      have : (((s.items.take q).map (stS s.items)).map encStm).length ≤ s.items.length := by simp only [List.length_map]; exact List.length_take_le' ..
      simp only [eq_iff_iff, iff_true]; omega
    repeat (first|(with_reducible first|refine q1 ?_|refine q2 ?_|refine q3 ?_|refine q4 ?_|refine q5 ?_|refine q6 ?_|refine q7 ?_|refine q8 ?_|refine q9 ?_|refine q10 ?_|refine q11 ?_|refine q12 (by decide) ?_)|((first|with_reducible refine q13 ?_|((with_reducible refine q14 ?_ ?_);focus exact rfl));intro K hK;simp +decide only[go_sem,reduceAdd,reduceMul,reduceSub,awake,hb,c39,n1,n2,c6,c8,c9,hss,htk,l_u,g_u,w_u,c7,hs2,hle];with_reducible refine hK _ ?_;clear hK K)|(with_reducible refine q15 ?_;intro K J hK hJ;simp +decide only[go_sem,reduceAdd,reduceMul,reduceSub,awake,hb,c39,n1,n2,c6,c8,c9,hss,htk,l_u,g_u,w_u,c7,hs2,hle];(with_reducible first|refine hK ?_|refine hJ ?_);clear hK hJ K J))
    refine ⟨q + 1, ?_, by omega, by omega⟩
    rw [List.take_add_one, g_u, List.map_append, List.map_append]
    simp only [Option.toList_some, List.map_cons, List.map_nil, encStm_eq]
    exact by simp +decide only[go_sem,reduceAdd,reduceMul,reduceSub,awake,hb,c39,n1,n2,c6,c8,c9,hss,htk,l_u,g_u,w_u] <;> rfl
  have l_e1 : ((q : Int) < ((s.items).length : Int)) = False := by simp; omega
  rw [List.take_of_length_le (by omega)]
  have hml : (s.items.map (stS s.items)).length < 4611686018427387904 := by rw [List.length_map]; omega
  have hsx : stripF noR (accD 22 ((s.items.map (stS s.items)).map encStm)) = sl 22 encStm (cn (s.items.map (stS s.items))) := by rw [strip_acc (stripFL_map _ (fun y => strip_Stm y) _), out_cn _ _ hml]
  have c10 := bld21 (cn (s.items.map (stS s.items))) (by rw [cn_items hml, List.length_map]; exact h1) (by rw [cn_items hml]; exact hsmall)
  rw [cn_items hml, hr1] at c10
  simp only [bldI] at c10
  have hrl : (r.map reT).length < 4611686018427387904 := by rw [List.length_map]; omega
  have c11 := same23 s (cn (r.map reT)) (by rw [cn_items hrl]; exact hr3)
  repeat (first|(with_reducible first|refine q1 ?_|refine q2 ?_|refine q3 ?_|refine q4 ?_|refine q5 ?_|refine q6 ?_|refine q7 ?_|refine q8 ?_|refine q9 ?_|refine q10 ?_|refine q11 ?_|refine q12 (by decide) ?_)|((first|with_reducible refine q13 ?_|((with_reducible refine q14 ?_ ?_);focus exact rfl));intro K hK;simp +decide only[go_sem,reduceAdd,reduceMul,reduceSub,awake,hb,c39,n1,n2,c6,c8,c9,hss,htk,l_e1,hsx,c10,c11];with_reducible refine hK _ ?_;clear hK K)|(with_reducible refine q15 ?_;intro K J hK hJ;simp +decide only[go_sem,reduceAdd,reduceMul,reduceSub,awake,hb,c39,n1,n2,c6,c8,c9,hss,htk,l_e1,hsx,c10,c11];(with_reducible first|refine hK ?_|refine hJ ?_);clear hK hJ K J))
  simp +decide only[go_sem,reduceAdd,reduceMul,reduceSub,awake,hb,c39,n1,n2,c6,c8,c9,hss,htk,l_e1]
end Go.Eng
