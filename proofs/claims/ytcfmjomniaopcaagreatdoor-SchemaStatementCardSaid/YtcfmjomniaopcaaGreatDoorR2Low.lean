/- A part of the proof: see the last text. -/
import Derived.KernelRfl
import Derived.Test.YtcfmjomniaopcaaGreatDoorR2Str
import Derived.Test.YtcfmjomniaopcaaGreatDoorEngS2
set_option linter.unusedSimpArgs false
set_option linter.unusedVariables false
namespace Go.Eng
open Go Go.Proofs
open Nat (reduceAdd reduceMul reduceSub)
set_option maxRecDepth 20000
set_option maxHeartbeats 32000000
variable {G : Nat → Option (List D)}
@[go_sem] theorem ty_by_126 : bytesTy Tryz.prog 126 = true := by kernel_rfl
@[go_sem] theorem ty_st_126 : isStr Tryz.prog 126 = false := by kernel_rfl
@[go_sem] theorem ty_by_2 : bytesTy Tryz.prog 2 = false := by kernel_rfl
@[go_sem] theorem ty_by_3 : bytesTy Tryz.prog 3 = false := by kernel_rfl
@[go_sem] theorem ty_by_131 : bytesTy Tryz.prog 131 = false := by kernel_rfl
@[go_sem] theorem ty_st_2 : isStr Tryz.prog 2 = false := by kernel_rfl
@[go_sem] theorem ty_st_3 : isStr Tryz.prog 3 = false := by kernel_rfl
@[go_sem] theorem ty_st_131 : isStr Tryz.prog 131 = false := by kernel_rfl
@[go_sem] theorem ty_by_9 : bytesTy Tryz.prog 9 = false := by kernel_rfl
def lowB (b : UInt8) : UInt8 := bif upI b.toNat then b + 32 else b
theorem mix_get {s : Str} {f : UInt8 → UInt8} {k : Nat} {x : UInt8} (h : s[k]? = some x) : (((s.take k).map f ++ s.drop k).map byteD)[k]? = some (byteD x) := by
  have hk : k < s.length := (List.getElem?_eq_some_iff.1 h).1
  rw [List.getElem?_map, List.getElem?_append_right (by simp; omega)]
  simp only [List.length_map, List.length_take, Nat.min_eq_left (Nat.le_of_lt hk), Nat.sub_self, List.getElem?_drop, Nat.add_zero, h, Option.map_some]
theorem mix_len {s : Str} {f : UInt8 → UInt8} {k : Nat} : (((s.take k).map f ++ s.drop k).map byteD).length = s.length := by simp; omega
theorem mix_set {s : Str} {f : UInt8 → UInt8} {k : Nat} {x : UInt8} (h : s[k]? = some x) : (((s.take k).map f ++ s.drop k).map byteD).set k (byteD (f x)) = ((s.take (k + 1)).map f ++ s.drop (k + 1)).map byteD := by
  have hk : k < s.length := (List.getElem?_eq_some_iff.1 h).1
  rw [dropc h, List.take_add_one, h]
  have : ((s.take k).map f).length = k := by simp; omega
  simp only [List.map_append, List.map_cons, Option.toList_some, List.map_nil, List.append_assoc, List.cons_append, List.nil_append]
  rw [List.set_append_right _ _ (by simp; omega)]
  simp [Nat.min_eq_left (Nat.le_of_lt hk)]
theorem mix_same {s : Str} {f : UInt8 → UInt8} {k : Nat} {x : UInt8} (h : s[k]? = some x) (e : f x = x) : ((s.take k).map f ++ s.drop k).map byteD = ((s.take (k + 1)).map f ++ s.drop (k + 1)).map byteD := by
  rw [dropc h, List.take_add_one, h]
  simp [e]
theorem byteD_eq (b : UInt8) : byteD b = .int .u8 b.toNat := rfl
def uppB (b : UInt8) : UInt8 := bif loI b.toNat then b - 32 else b
theorem lowB_val {x : UInt8} (c1 : decide ((65 : Int) ≤ x.toNat) = true) (c2 : decide ((x.toNat : Int) ≤ 90) = true) : IntKind.u8.wrap (IntKind.u8.wrap ((x.toNat : Int) - 65) + 97) = ((lowB x).toNat : Int) := by
  have c1 := of_decide_eq_true c1
  have c2 := of_decide_eq_true c2
  have h1 : x.toNat < 256 := x.toNat_lt
  have h2 : (lowB x).toNat = x.toNat + 32 := by
    simp only [lowB, upI, c1, c2, decide_true, Bool.and_true, cond_true]
    rw [UInt8.toNat_add]; show (x.toNat + 32) % 256 = _; omega
  simp only [IntKind.wrap_u8, h2]
  omega
theorem lowB_same1 {x : UInt8} (c1 : decide ((65 : Int) ≤ x.toNat) = false) : lowB x = x := by
  simp only [lowB, upI, c1, Bool.false_and, cond_false]
theorem lowB_same2 {x : UInt8} (c1 : decide ((x.toNat : Int) ≤ 90) = false) : lowB x = x := by
  simp only [lowB, upI, c1, Bool.and_false, cond_false]
theorem low164 (s : Str) (hs : s.length ≤ 100) : callP (XG G) TT 76 [.str s] = some (.str (s.map lowB)) := by
  refine callP_val T76 rfl (by simp only [go_sem]) ?_
  unfold Tryz.f76
  simp only [Option.getD_some]
  have h1 : (s.length ≤ 16777216) = True := by simp; omega
  simp +decide only[go_sem,reduceAdd,reduceMul,reduceSub,h1]
  refine gw h1 ?_
  refine wpI_loopC (T := Nat) [3, 8, 9, 10] rfl (by simp +decide only[go_sem,reduceAdd,reduceMul,reduceSub,h1]; exact rfl) (fun k => [(10, .int .i64 (k : Int))]) (fun _ => []) (fun k => ⟨[((s.take k).map lowB ++ s.drop k).map byteD], []⟩) (fun k => k ≤ s.length) (fun k => s.length - k) 0 (by simp +decide only[go_sem,reduceAdd,reduceMul,reduceSub,h1] <;> rfl) (by simp) ?_
  rintro k hk
  by_cases h : k < s.length
  · have l_x : ((k : Int) < ((s).length : Int)) = True := by simp; omega
    obtain ⟨x, g_x⟩ : ∃ a_, (s)[k]? = some a_ := ⟨_, List.getElem?_eq_getElem (by assumption)⟩
    have w_x := wrap_nat k (by omega)
    have hg := mix_get (f := lowB) g_x
    have hl : (((s.take k).map lowB ++ s.drop k).map byteD).length = s.length := mix_len
    repeat (first|(with_reducible first|refine q1 ?_|refine q2 ?_|refine q3 ?_|refine q4 ?_|refine q5 ?_|refine q6 ?_|refine q7 ?_|refine q8 ?_|refine q9 ?_|refine q10 ?_|refine q11 ?_|refine q12 (by decide) ?_)|((first|with_reducible refine q13 ?_|((with_reducible refine q14 ?_ ?_);focus exact rfl));intro K hK;simp +decide only[go_sem,reduceAdd,reduceMul,reduceSub,h1,l_x,g_x,w_x,hg,byteD_eq];with_reducible refine hK _ ?_;clear hK K)|(with_reducible refine q15 ?_;intro K J hK hJ;simp +decide only[go_sem,reduceAdd,reduceMul,reduceSub,h1,l_x,g_x,w_x,hg,byteD_eq];(with_reducible first|refine hK ?_|refine hJ ?_);clear hK hJ K J))
    cases c1 : (decide ((65 : Int) ≤ x.toNat))
    · repeat (first|(with_reducible first|refine q1 ?_|refine q2 ?_|refine q3 ?_|refine q4 ?_|refine q5 ?_|refine q6 ?_|refine q7 ?_|refine q8 ?_|refine q9 ?_|refine q10 ?_|refine q11 ?_|refine q12 (by decide) ?_)|((first|with_reducible refine q13 ?_|((with_reducible refine q14 ?_ ?_);focus exact rfl));intro K hK;simp +decide only[go_sem,reduceAdd,reduceMul,reduceSub,h1,l_x,g_x,w_x,hg,byteD_eq,c1];with_reducible refine hK _ ?_;clear hK K)|(with_reducible refine q15 ?_;intro K J hK hJ;simp +decide only[go_sem,reduceAdd,reduceMul,reduceSub,h1,l_x,g_x,w_x,hg,byteD_eq,c1];(with_reducible first|refine hK ?_|refine hJ ?_);clear hK hJ K J))
      rw [mix_same g_x (lowB_same1 c1)]
      exact ⟨(k + 1), by simp +decide only[go_sem,reduceAdd,reduceMul,reduceSub,h1,l_x,g_x,w_x,hg,byteD_eq,c1] <;> rfl, by omega, by omega⟩
    cases c2 : (decide ((x.toNat : Int) ≤ 90))
    · repeat (first|(with_reducible first|refine q1 ?_|refine q2 ?_|refine q3 ?_|refine q4 ?_|refine q5 ?_|refine q6 ?_|refine q7 ?_|refine q8 ?_|refine q9 ?_|refine q10 ?_|refine q11 ?_|refine q12 (by decide) ?_)|((first|with_reducible refine q13 ?_|((with_reducible refine q14 ?_ ?_);focus exact rfl));intro K hK;simp +decide only[go_sem,reduceAdd,reduceMul,reduceSub,h1,l_x,g_x,w_x,hg,byteD_eq,c1,c2];with_reducible refine hK _ ?_;clear hK K)|(with_reducible refine q15 ?_;intro K J hK hJ;simp +decide only[go_sem,reduceAdd,reduceMul,reduceSub,h1,l_x,g_x,w_x,hg,byteD_eq,c1,c2];(with_reducible first|refine hK ?_|refine hJ ?_);clear hK hJ K J))
      rw [mix_same g_x (lowB_same2 c2)]
      exact ⟨(k + 1), by simp +decide only[go_sem,reduceAdd,reduceMul,reduceSub,h1,l_x,g_x,w_x,hg,byteD_eq,c1,c2] <;> rfl, by omega, by omega⟩
    have hs1 := mix_set (f := lowB) g_x
    simp only [byteD_eq] at hs1
    have hv := lowB_val c1 c2
    have hle : (k + 1 ≤ s.length) = True := eq_true (by omega)
    repeat (first|(with_reducible first|refine q1 ?_|refine q2 ?_|refine q3 ?_|refine q4 ?_|refine q5 ?_|refine q6 ?_|refine q7 ?_|refine q8 ?_|refine q9 ?_|refine q10 ?_|refine q11 ?_|refine q12 (by decide) ?_)|((first|with_reducible refine q13 ?_|((with_reducible refine q14 ?_ ?_);focus exact rfl));intro K hK;simp +decide only[go_sem,reduceAdd,reduceMul,reduceSub,h1,l_x,g_x,w_x,hg,byteD_eq,c1,c2,hs1,hv,hl,hle];with_reducible refine hK _ ?_;clear hK K)|(with_reducible refine q15 ?_;intro K J hK hJ;simp +decide only[go_sem,reduceAdd,reduceMul,reduceSub,h1,l_x,g_x,w_x,hg,byteD_eq,c1,c2,hs1,hv,hl,hle];(with_reducible first|refine hK ?_|refine hJ ?_);clear hK hJ K J))
    exact ⟨(k + 1), by simp +decide only[go_sem,reduceAdd,reduceMul,reduceSub,h1,l_x,g_x,w_x,hg,byteD_eq,c1,c2,hs1,hv,hl,hle] <;> rfl, by omega, by omega⟩
  · have l_x : ((k : Int) < ((s).length : Int)) = False := by simp; omega
    obtain rfl : k = s.length := by omega
    rw [List.take_length, List.drop_length, List.append_nil]
    have hb : bytesOf (((s.map lowB).map byteD).take s.length) = some (s.map lowB) := by
      rw [List.take_of_length_le (by simp), bytesOf_map]
    have hle : (s.length ≤ ((s.map lowB).map byteD).length) = True := eq_true (by simp)
    repeat (first|(with_reducible first|refine q1 ?_|refine q2 ?_|refine q3 ?_|refine q4 ?_|refine q5 ?_|refine q6 ?_|refine q7 ?_|refine q8 ?_|refine q9 ?_|refine q10 ?_|refine q11 ?_|refine q12 (by decide) ?_)|((first|with_reducible refine q13 ?_|((with_reducible refine q14 ?_ ?_);focus exact rfl));intro K hK;simp +decide only[go_sem,reduceAdd,reduceMul,reduceSub,h1,l_x,List.drop_zero,hb,hle];with_reducible refine hK _ ?_;clear hK K)|(with_reducible refine q15 ?_;intro K J hK hJ;simp +decide only[go_sem,reduceAdd,reduceMul,reduceSub,h1,l_x,List.drop_zero,hb,hle];(with_reducible first|refine hK ?_|refine hJ ?_);clear hK hJ K J))
    simp +decide only[go_sem,reduceAdd,reduceMul,reduceSub,h1,l_x]
theorem uppB_val {x : UInt8} (c1 : decide ((97 : Int) ≤ x.toNat) = true) (c2 : decide ((x.toNat : Int) ≤ 122) = true) : IntKind.u8.wrap (IntKind.u8.wrap ((x.toNat : Int) - 97) + 65) = ((uppB x).toNat : Int) := by
  have c1 := of_decide_eq_true c1
  have c2 := of_decide_eq_true c2
  have h1 : x.toNat < 256 := x.toNat_lt
  have h2 : (uppB x).toNat = x.toNat - 32 := by
    simp only [uppB, loI, c1, c2, decide_true, Bool.and_true, cond_true]
    rw [UInt8.toNat_sub_of_le _ _ (by rw [UInt8.le_iff_toNat_le]; show 32 ≤ x.toNat; omega)]; rfl
  simp only [IntKind.wrap_u8, h2]
  omega
theorem uppB_same1 {x : UInt8} (c1 : decide ((97 : Int) ≤ x.toNat) = false) : uppB x = x := by
  simp only [uppB, loI, c1, Bool.false_and, cond_false]
theorem uppB_same2 {x : UInt8} (c1 : decide ((x.toNat : Int) ≤ 122) = false) : uppB x = x := by
  simp only [uppB, loI, c1, Bool.and_false, cond_false]
theorem upp183 (s : Str) (hs : s.length ≤ 100) : callP (XG G) TT 98 [.str s] = some (.str (s.map uppB)) := by
  refine callP_val T98 rfl (by simp only [go_sem]) ?_
  unfold Tryz.f98
  simp only [Option.getD_some]
  have h1 : (s.length ≤ 16777216) = True := by simp; omega
  simp +decide only[go_sem,reduceAdd,reduceMul,reduceSub,h1]
  refine gw h1 ?_
  refine wpI_loopC (T := Nat) [3, 8, 9, 10] rfl (by simp +decide only[go_sem,reduceAdd,reduceMul,reduceSub,h1]; exact rfl) (fun k => [(10, .int .i64 (k : Int))]) (fun _ => []) (fun k => ⟨[((s.take k).map uppB ++ s.drop k).map byteD], []⟩) (fun k => k ≤ s.length) (fun k => s.length - k) 0 (by simp +decide only[go_sem,reduceAdd,reduceMul,reduceSub,h1] <;> rfl) (by simp) ?_
  rintro k hk
  by_cases h : k < s.length
  · have l_x : ((k : Int) < ((s).length : Int)) = True := by simp; omega
    obtain ⟨x, g_x⟩ : ∃ a_, (s)[k]? = some a_ := ⟨_, List.getElem?_eq_getElem (by assumption)⟩
    have w_x := wrap_nat k (by omega)
    have hg := mix_get (f := uppB) g_x
    have hl : (((s.take k).map uppB ++ s.drop k).map byteD).length = s.length := mix_len
    repeat (first|(with_reducible first|refine q1 ?_|refine q2 ?_|refine q3 ?_|refine q4 ?_|refine q5 ?_|refine q6 ?_|refine q7 ?_|refine q8 ?_|refine q9 ?_|refine q10 ?_|refine q11 ?_|refine q12 (by decide) ?_)|((first|with_reducible refine q13 ?_|((with_reducible refine q14 ?_ ?_);focus exact rfl));intro K hK;simp +decide only[go_sem,reduceAdd,reduceMul,reduceSub,h1,l_x,g_x,w_x,hg,byteD_eq];with_reducible refine hK _ ?_;clear hK K)|(with_reducible refine q15 ?_;intro K J hK hJ;simp +decide only[go_sem,reduceAdd,reduceMul,reduceSub,h1,l_x,g_x,w_x,hg,byteD_eq];(with_reducible first|refine hK ?_|refine hJ ?_);clear hK hJ K J))
    cases c1 : (decide ((97 : Int) ≤ x.toNat))
    · repeat (first|(with_reducible first|refine q1 ?_|refine q2 ?_|refine q3 ?_|refine q4 ?_|refine q5 ?_|refine q6 ?_|refine q7 ?_|refine q8 ?_|refine q9 ?_|refine q10 ?_|refine q11 ?_|refine q12 (by decide) ?_)|((first|with_reducible refine q13 ?_|((with_reducible refine q14 ?_ ?_);focus exact rfl));intro K hK;simp +decide only[go_sem,reduceAdd,reduceMul,reduceSub,h1,l_x,g_x,w_x,hg,byteD_eq,c1];with_reducible refine hK _ ?_;clear hK K)|(with_reducible refine q15 ?_;intro K J hK hJ;simp +decide only[go_sem,reduceAdd,reduceMul,reduceSub,h1,l_x,g_x,w_x,hg,byteD_eq,c1];(with_reducible first|refine hK ?_|refine hJ ?_);clear hK hJ K J))
      rw [mix_same g_x (uppB_same1 c1)]
      exact ⟨(k + 1), by simp +decide only[go_sem,reduceAdd,reduceMul,reduceSub,h1,l_x,g_x,w_x,hg,byteD_eq,c1] <;> rfl, by omega, by omega⟩
    cases c2 : (decide ((x.toNat : Int) ≤ 122))
    · repeat (first|(with_reducible first|refine q1 ?_|refine q2 ?_|refine q3 ?_|refine q4 ?_|refine q5 ?_|refine q6 ?_|refine q7 ?_|refine q8 ?_|refine q9 ?_|refine q10 ?_|refine q11 ?_|refine q12 (by decide) ?_)|((first|with_reducible refine q13 ?_|((with_reducible refine q14 ?_ ?_);focus exact rfl));intro K hK;simp +decide only[go_sem,reduceAdd,reduceMul,reduceSub,h1,l_x,g_x,w_x,hg,byteD_eq,c1,c2];with_reducible refine hK _ ?_;clear hK K)|(with_reducible refine q15 ?_;intro K J hK hJ;simp +decide only[go_sem,reduceAdd,reduceMul,reduceSub,h1,l_x,g_x,w_x,hg,byteD_eq,c1,c2];(with_reducible first|refine hK ?_|refine hJ ?_);clear hK hJ K J))
      rw [mix_same g_x (uppB_same2 c2)]
      exact ⟨(k + 1), by simp +decide only[go_sem,reduceAdd,reduceMul,reduceSub,h1,l_x,g_x,w_x,hg,byteD_eq,c1,c2] <;> rfl, by omega, by omega⟩
    have hs1 := mix_set (f := uppB) g_x
    simp only [byteD_eq] at hs1
    have hv := uppB_val c1 c2
    have hle : (k + 1 ≤ s.length) = True := eq_true (by omega)
    repeat (first|(with_reducible first|refine q1 ?_|refine q2 ?_|refine q3 ?_|refine q4 ?_|refine q5 ?_|refine q6 ?_|refine q7 ?_|refine q8 ?_|refine q9 ?_|refine q10 ?_|refine q11 ?_|refine q12 (by decide) ?_)|((first|with_reducible refine q13 ?_|((with_reducible refine q14 ?_ ?_);focus exact rfl));intro K hK;simp +decide only[go_sem,reduceAdd,reduceMul,reduceSub,h1,l_x,g_x,w_x,hg,byteD_eq,c1,c2,hs1,hv,hl,hle];with_reducible refine hK _ ?_;clear hK K)|(with_reducible refine q15 ?_;intro K J hK hJ;simp +decide only[go_sem,reduceAdd,reduceMul,reduceSub,h1,l_x,g_x,w_x,hg,byteD_eq,c1,c2,hs1,hv,hl,hle];(with_reducible first|refine hK ?_|refine hJ ?_);clear hK hJ K J))
    exact ⟨(k + 1), by simp +decide only[go_sem,reduceAdd,reduceMul,reduceSub,h1,l_x,g_x,w_x,hg,byteD_eq,c1,c2,hs1,hv,hl,hle] <;> rfl, by omega, by omega⟩
  · have l_x : ((k : Int) < ((s).length : Int)) = False := by simp; omega
    obtain rfl : k = s.length := by omega
    rw [List.take_length, List.drop_length, List.append_nil]
    have hb : bytesOf (((s.map uppB).map byteD).take s.length) = some (s.map uppB) := by
      rw [List.take_of_length_le (by simp), bytesOf_map]
    have hle : (s.length ≤ ((s.map uppB).map byteD).length) = True := eq_true (by simp)
    repeat (first|(with_reducible first|refine q1 ?_|refine q2 ?_|refine q3 ?_|refine q4 ?_|refine q5 ?_|refine q6 ?_|refine q7 ?_|refine q8 ?_|refine q9 ?_|refine q10 ?_|refine q11 ?_|refine q12 (by decide) ?_)|((first|with_reducible refine q13 ?_|((with_reducible refine q14 ?_ ?_);focus exact rfl));intro K hK;simp +decide only[go_sem,reduceAdd,reduceMul,reduceSub,h1,l_x,List.drop_zero,hb,hle];with_reducible refine hK _ ?_;clear hK K)|(with_reducible refine q15 ?_;intro K J hK hJ;simp +decide only[go_sem,reduceAdd,reduceMul,reduceSub,h1,l_x,List.drop_zero,hb,hle];(with_reducible first|refine hK ?_|refine hJ ?_);clear hK hJ K J))
    simp +decide only[go_sem,reduceAdd,reduceMul,reduceSub,h1,l_x]
end Go.Eng
