/- A part of the proof: see the last text. -/
import Derived.Test.YtggiaoaballdgaaGreatDoorJ22
import Derived.Test.YtggiaoaballdgaaGreatDoorJ16
import Derived.Test.YtggiaoaballdgaaGreatDoorJ9
import Derived.Test.YtggiaoaballdgaaGreatDoorJ12
set_option linter.unusedSimpArgs false
set_option linter.unusedVariables false
namespace Go.Eng
open Go Go.Proofs
open Nat renaming reduceAdd → ra, reduceMul → rb, reduceSub → rc
set_option maxRecDepth 20000
set_option maxHeartbeats 32000000
attribute [local irreducible] wpI xU
variable {G:Nat->Option (List D)}
def rkB (t:Int):Int:=bif t==0 then 0 else bif t==1 then 2 else 1
theorem zKf (t:Int):zA (XG G) TT 178 [.int .i64 t]=some (.int .i64 (rkB t)):=by
 refine zD T178 rfl (by simp only[go_sem]) ?_
 unfold Tryz.f178 xJj
 simp only[Option.getD_some]
 simp +decide only[go_sem]
 cases t0:(t==0)
 ·cases t1:(t==1)
  ·refine gw (an t0 t1) ?_
   simp +decide only[go_sem]
   simp only[t0,t1,rkB,cond_false]
  ·refine gw (an t0 t1) ?_
   simp +decide only[go_sem]
   simp only[t0,t1,rkB,cond_true,cond_false]
 ·refine gw t0 ?_
  simp +decide only[go_sem]
  simp only[t0,rkB,cond_true]
theorem yXq (b:Bool):zA (XG G) TT 129 [.bool b]=some (.int .i64 (ofB b)):=by
 refine zD T129 rfl (by simp only[go_sem]) ?_
 unfold Tryz.f129 xKo
 simp only[Option.getD_some]
 simp +decide only[go_sem]
 cases b
 ·refine gw trivial ?_
  simp +decide only[go_sem]
  rfl
 ·refine gw trivial ?_
  simp +decide only[go_sem]
  rfl
theorem zQk (t:Int):rkB t=0\/rkB t=1\/rkB t=2:=by unfold rkB;cases t==0<;>cases t==1<;>simp
theorem xBe (t u:Int) (ht:Tri t) (hu:Tri u):zA (XG GK) TT 125 [.int .i64 t,.int .i64 u]=some (.int .i64 (zYw t u)):=by
 have h1:=zKf (G:=GK) t
 have h2:=zKf (G:=GK) u
 have he:zYw t u=bif decide (rkB u<rkB t) then bif rkB u==0 then 0 else bif rkB u==1 then 2 else 1 else bif rkB t==0 then 0 else bif rkB t==1 then 2 else 1:=by
  rcases ht with rfl|rfl|rfl<;>rcases hu with rfl|rfl|rfl<;>rfl
 have r1:=zQk t
 have r2:=zQk u
 rw[he]
 generalize rkB t=a at *
 generalize rkB u=b at *
 refine zD T125 rfl (by simp only[go_sem]) ?_
 unfold Tryz.f125 xKr
 simp only[Option.getD_some]
 have t0:Int.toNat 0=0:=rfl
 have t1:Int.toNat 1=1:=rfl
 have t2:Int.toNat 2=2:=rfl
 simp +decide only[go_sem,ra]
 rcases r1 with rfl|rfl|rfl<;>rcases r2 with rfl|rfl|rfl
 ·repeat (first|(with_reducible first|refine q1 ?_|refine q2 ?_|refine q3 ?_|refine q4 ?_|refine q5 ?_|refine q6 ?_|refine q7 ?_|refine q8 ?_|refine q9 ?_|refine q10 ?_|refine q11 ?_|refine q12 (by decide) ?_)|((first|with_reducible refine q13 ?_|((with_reducible refine q14 ?_ ?_);focus exact rfl));intro K hK;simp +decide only[go_sem,h1,h2,tvL,t0];with_reducible refine hK _ ?_;clear hK K)|(with_reducible refine q15 ?_;intro K J hK hJ;simp +decide only[go_sem,ra,rb,rc,h1,h2,tvL,t0,t1,t2];(with_reducible first|refine hK ?_|refine hJ ?_);clear hK hJ K J))
  simp +decide only[go_sem]
  try rfl
 ·repeat (first|(with_reducible first|refine q1 ?_|refine q2 ?_|refine q3 ?_|refine q4 ?_|refine q5 ?_|refine q6 ?_|refine q7 ?_|refine q8 ?_|refine q9 ?_|refine q10 ?_|refine q11 ?_|refine q12 (by decide) ?_)|((first|with_reducible refine q13 ?_|((with_reducible refine q14 ?_ ?_);focus exact rfl));intro K hK;simp +decide only[go_sem,h1,h2,tvL,t0];with_reducible refine hK _ ?_;clear hK K)|(with_reducible refine q15 ?_;intro K J hK hJ;simp +decide only[go_sem,ra,rb,rc,h1,h2,tvL,t0,t1,t2];(with_reducible first|refine hK ?_|refine hJ ?_);clear hK hJ K J))
  simp +decide only[go_sem]
  try rfl
 ·repeat (first|(with_reducible first|refine q1 ?_|refine q2 ?_|refine q3 ?_|refine q4 ?_|refine q5 ?_|refine q6 ?_|refine q7 ?_|refine q8 ?_|refine q9 ?_|refine q10 ?_|refine q11 ?_|refine q12 (by decide) ?_)|((first|with_reducible refine q13 ?_|((with_reducible refine q14 ?_ ?_);focus exact rfl));intro K hK;simp +decide only[go_sem,h1,h2,tvL,t0];with_reducible refine hK _ ?_;clear hK K)|(with_reducible refine q15 ?_;intro K J hK hJ;simp +decide only[go_sem,ra,rb,rc,h1,h2,tvL,t0,t1,t2];(with_reducible first|refine hK ?_|refine hJ ?_);clear hK hJ K J))
  simp +decide only[go_sem]
  try rfl
 ·repeat (first|(with_reducible first|refine q1 ?_|refine q2 ?_|refine q3 ?_|refine q4 ?_|refine q5 ?_|refine q6 ?_|refine q7 ?_|refine q8 ?_|refine q9 ?_|refine q10 ?_|refine q11 ?_|refine q12 (by decide) ?_)|((first|with_reducible refine q13 ?_|((with_reducible refine q14 ?_ ?_);focus exact rfl));intro K hK;simp +decide only[go_sem,h1,h2,tvL,t0];with_reducible refine hK _ ?_;clear hK K)|(with_reducible refine q15 ?_;intro K J hK hJ;simp +decide only[go_sem,ra,rb,rc,h1,h2,tvL,t0,t1,t2];(with_reducible first|refine hK ?_|refine hJ ?_);clear hK hJ K J))
  simp +decide only[go_sem]
  try rfl
 ·repeat (first|(with_reducible first|refine q1 ?_|refine q2 ?_|refine q3 ?_|refine q4 ?_|refine q5 ?_|refine q6 ?_|refine q7 ?_|refine q8 ?_|refine q9 ?_|refine q10 ?_|refine q11 ?_|refine q12 (by decide) ?_)|((first|with_reducible refine q13 ?_|((with_reducible refine q14 ?_ ?_);focus exact rfl));intro K hK;simp +decide only[go_sem,h1,h2,tvL,t1];with_reducible refine hK _ ?_;clear hK K)|(with_reducible refine q15 ?_;intro K J hK hJ;simp +decide only[go_sem,ra,rb,rc,h1,h2,tvL,t0,t1,t2];(with_reducible first|refine hK ?_|refine hJ ?_);clear hK hJ K J))
  simp +decide only[go_sem]
  try rfl
 ·repeat (first|(with_reducible first|refine q1 ?_|refine q2 ?_|refine q3 ?_|refine q4 ?_|refine q5 ?_|refine q6 ?_|refine q7 ?_|refine q8 ?_|refine q9 ?_|refine q10 ?_|refine q11 ?_|refine q12 (by decide) ?_)|((first|with_reducible refine q13 ?_|((with_reducible refine q14 ?_ ?_);focus exact rfl));intro K hK;simp +decide only[go_sem,h1,h2,tvL,t1];with_reducible refine hK _ ?_;clear hK K)|(with_reducible refine q15 ?_;intro K J hK hJ;simp +decide only[go_sem,ra,rb,rc,h1,h2,tvL,t0,t1,t2];(with_reducible first|refine hK ?_|refine hJ ?_);clear hK hJ K J))
  simp +decide only[go_sem]
  try rfl
 ·repeat (first|(with_reducible first|refine q1 ?_|refine q2 ?_|refine q3 ?_|refine q4 ?_|refine q5 ?_|refine q6 ?_|refine q7 ?_|refine q8 ?_|refine q9 ?_|refine q10 ?_|refine q11 ?_|refine q12 (by decide) ?_)|((first|with_reducible refine q13 ?_|((with_reducible refine q14 ?_ ?_);focus exact rfl));intro K hK;simp +decide only[go_sem,h1,h2,tvL,t0];with_reducible refine hK _ ?_;clear hK K)|(with_reducible refine q15 ?_;intro K J hK hJ;simp +decide only[go_sem,ra,rb,rc,h1,h2,tvL,t0,t1,t2];(with_reducible first|refine hK ?_|refine hJ ?_);clear hK hJ K J))
  simp +decide only[go_sem]
  try rfl
 ·repeat (first|(with_reducible first|refine q1 ?_|refine q2 ?_|refine q3 ?_|refine q4 ?_|refine q5 ?_|refine q6 ?_|refine q7 ?_|refine q8 ?_|refine q9 ?_|refine q10 ?_|refine q11 ?_|refine q12 (by decide) ?_)|((first|with_reducible refine q13 ?_|((with_reducible refine q14 ?_ ?_);focus exact rfl));intro K hK;simp +decide only[go_sem,h1,h2,tvL,t1];with_reducible refine hK _ ?_;clear hK K)|(with_reducible refine q15 ?_;intro K J hK hJ;simp +decide only[go_sem,ra,rb,rc,h1,h2,tvL,t0,t1,t2];(with_reducible first|refine hK ?_|refine hJ ?_);clear hK hJ K J))
  simp +decide only[go_sem]
  try rfl
 ·repeat (first|(with_reducible first|refine q1 ?_|refine q2 ?_|refine q3 ?_|refine q4 ?_|refine q5 ?_|refine q6 ?_|refine q7 ?_|refine q8 ?_|refine q9 ?_|refine q10 ?_|refine q11 ?_|refine q12 (by decide) ?_)|((first|with_reducible refine q13 ?_|((with_reducible refine q14 ?_ ?_);focus exact rfl));intro K hK;simp +decide only[go_sem,h1,h2,tvL,t2];with_reducible refine hK _ ?_;clear hK K)|(with_reducible refine q15 ?_;intro K J hK hJ;simp +decide only[go_sem,ra,rb,rc,h1,h2,tvL,t0,t1,t2];(with_reducible first|refine hK ?_|refine hJ ?_);clear hK hJ K J))
  simp +decide only[go_sem]
  try rfl
theorem xOn (t u:Int) (ht:Tri t) (hu:Tri u):zA (XG GK) TT 126 [.int .i64 t,.int .i64 u]=some (.int .i64 (or3 t u)):=by
 have h1:=zKf (G:=GK) t
 have h2:=zKf (G:=GK) u
 have he:or3 t u=bif decide (rkB t<rkB u) then bif rkB u==0 then 0 else bif rkB u==1 then 2 else 1 else bif rkB t==0 then 0 else bif rkB t==1 then 2 else 1:=by
  rcases ht with rfl|rfl|rfl<;>rcases hu with rfl|rfl|rfl<;>rfl
 have r1:=zQk t
 have r2:=zQk u
 rw[he]
 generalize rkB t=a at *
 generalize rkB u=b at *
 refine zD T126 rfl (by simp only[go_sem]) ?_
 unfold Tryz.f126 xKq
 simp only[Option.getD_some]
 have t0:Int.toNat 0=0:=rfl
 have t1:Int.toNat 1=1:=rfl
 have t2:Int.toNat 2=2:=rfl
 simp +decide only[go_sem,ra]
 rcases r1 with rfl|rfl|rfl<;>rcases r2 with rfl|rfl|rfl
 ·repeat (first|(with_reducible first|refine q1 ?_|refine q2 ?_|refine q3 ?_|refine q4 ?_|refine q5 ?_|refine q6 ?_|refine q7 ?_|refine q8 ?_|refine q9 ?_|refine q10 ?_|refine q11 ?_|refine q12 (by decide) ?_)|((first|with_reducible refine q13 ?_|((with_reducible refine q14 ?_ ?_);focus exact rfl));intro K hK;simp +decide only[go_sem,h1,h2,tvL,t0];with_reducible refine hK _ ?_;clear hK K)|(with_reducible refine q15 ?_;intro K J hK hJ;simp +decide only[go_sem,ra,rb,rc,h1,h2,tvL,t0,t1,t2];(with_reducible first|refine hK ?_|refine hJ ?_);clear hK hJ K J))
  simp +decide only[go_sem]
  try rfl
 ·repeat (first|(with_reducible first|refine q1 ?_|refine q2 ?_|refine q3 ?_|refine q4 ?_|refine q5 ?_|refine q6 ?_|refine q7 ?_|refine q8 ?_|refine q9 ?_|refine q10 ?_|refine q11 ?_|refine q12 (by decide) ?_)|((first|with_reducible refine q13 ?_|((with_reducible refine q14 ?_ ?_);focus exact rfl));intro K hK;simp +decide only[go_sem,h1,h2,tvL,t1];with_reducible refine hK _ ?_;clear hK K)|(with_reducible refine q15 ?_;intro K J hK hJ;simp +decide only[go_sem,ra,rb,rc,h1,h2,tvL,t0,t1,t2];(with_reducible first|refine hK ?_|refine hJ ?_);clear hK hJ K J))
  simp +decide only[go_sem]
  try rfl
 ·repeat (first|(with_reducible first|refine q1 ?_|refine q2 ?_|refine q3 ?_|refine q4 ?_|refine q5 ?_|refine q6 ?_|refine q7 ?_|refine q8 ?_|refine q9 ?_|refine q10 ?_|refine q11 ?_|refine q12 (by decide) ?_)|((first|with_reducible refine q13 ?_|((with_reducible refine q14 ?_ ?_);focus exact rfl));intro K hK;simp +decide only[go_sem,h1,h2,tvL,t2];with_reducible refine hK _ ?_;clear hK K)|(with_reducible refine q15 ?_;intro K J hK hJ;simp +decide only[go_sem,ra,rb,rc,h1,h2,tvL,t0,t1,t2];(with_reducible first|refine hK ?_|refine hJ ?_);clear hK hJ K J))
  simp +decide only[go_sem]
  try rfl
 ·repeat (first|(with_reducible first|refine q1 ?_|refine q2 ?_|refine q3 ?_|refine q4 ?_|refine q5 ?_|refine q6 ?_|refine q7 ?_|refine q8 ?_|refine q9 ?_|refine q10 ?_|refine q11 ?_|refine q12 (by decide) ?_)|((first|with_reducible refine q13 ?_|((with_reducible refine q14 ?_ ?_);focus exact rfl));intro K hK;simp +decide only[go_sem,h1,h2,tvL,t1];with_reducible refine hK _ ?_;clear hK K)|(with_reducible refine q15 ?_;intro K J hK hJ;simp +decide only[go_sem,ra,rb,rc,h1,h2,tvL,t0,t1,t2];(with_reducible first|refine hK ?_|refine hJ ?_);clear hK hJ K J))
  simp +decide only[go_sem]
  try rfl
 ·repeat (first|(with_reducible first|refine q1 ?_|refine q2 ?_|refine q3 ?_|refine q4 ?_|refine q5 ?_|refine q6 ?_|refine q7 ?_|refine q8 ?_|refine q9 ?_|refine q10 ?_|refine q11 ?_|refine q12 (by decide) ?_)|((first|with_reducible refine q13 ?_|((with_reducible refine q14 ?_ ?_);focus exact rfl));intro K hK;simp +decide only[go_sem,h1,h2,tvL,t1];with_reducible refine hK _ ?_;clear hK K)|(with_reducible refine q15 ?_;intro K J hK hJ;simp +decide only[go_sem,ra,rb,rc,h1,h2,tvL,t0,t1,t2];(with_reducible first|refine hK ?_|refine hJ ?_);clear hK hJ K J))
  simp +decide only[go_sem]
  try rfl
 ·repeat (first|(with_reducible first|refine q1 ?_|refine q2 ?_|refine q3 ?_|refine q4 ?_|refine q5 ?_|refine q6 ?_|refine q7 ?_|refine q8 ?_|refine q9 ?_|refine q10 ?_|refine q11 ?_|refine q12 (by decide) ?_)|((first|with_reducible refine q13 ?_|((with_reducible refine q14 ?_ ?_);focus exact rfl));intro K hK;simp +decide only[go_sem,h1,h2,tvL,t2];with_reducible refine hK _ ?_;clear hK K)|(with_reducible refine q15 ?_;intro K J hK hJ;simp +decide only[go_sem,ra,rb,rc,h1,h2,tvL,t0,t1,t2];(with_reducible first|refine hK ?_|refine hJ ?_);clear hK hJ K J))
  simp +decide only[go_sem]
  try rfl
 ·repeat (first|(with_reducible first|refine q1 ?_|refine q2 ?_|refine q3 ?_|refine q4 ?_|refine q5 ?_|refine q6 ?_|refine q7 ?_|refine q8 ?_|refine q9 ?_|refine q10 ?_|refine q11 ?_|refine q12 (by decide) ?_)|((first|with_reducible refine q13 ?_|((with_reducible refine q14 ?_ ?_);focus exact rfl));intro K hK;simp +decide only[go_sem,h1,h2,tvL,t2];with_reducible refine hK _ ?_;clear hK K)|(with_reducible refine q15 ?_;intro K J hK hJ;simp +decide only[go_sem,ra,rb,rc,h1,h2,tvL,t0,t1,t2];(with_reducible first|refine hK ?_|refine hJ ?_);clear hK hJ K J))
  simp +decide only[go_sem]
  try rfl
 ·repeat (first|(with_reducible first|refine q1 ?_|refine q2 ?_|refine q3 ?_|refine q4 ?_|refine q5 ?_|refine q6 ?_|refine q7 ?_|refine q8 ?_|refine q9 ?_|refine q10 ?_|refine q11 ?_|refine q12 (by decide) ?_)|((first|with_reducible refine q13 ?_|((with_reducible refine q14 ?_ ?_);focus exact rfl));intro K hK;simp +decide only[go_sem,h1,h2,tvL,t2];with_reducible refine hK _ ?_;clear hK K)|(with_reducible refine q15 ?_;intro K J hK hJ;simp +decide only[go_sem,ra,rb,rc,h1,h2,tvL,t0,t1,t2];(with_reducible first|refine hK ?_|refine hJ ?_);clear hK hJ K J))
  simp +decide only[go_sem]
  try rfl
 ·repeat (first|(with_reducible first|refine q1 ?_|refine q2 ?_|refine q3 ?_|refine q4 ?_|refine q5 ?_|refine q6 ?_|refine q7 ?_|refine q8 ?_|refine q9 ?_|refine q10 ?_|refine q11 ?_|refine q12 (by decide) ?_)|((first|with_reducible refine q13 ?_|((with_reducible refine q14 ?_ ?_);focus exact rfl));intro K hK;simp +decide only[go_sem,h1,h2,tvL,t2];with_reducible refine hK _ ?_;clear hK K)|(with_reducible refine q15 ?_;intro K J hK hJ;simp +decide only[go_sem,ra,rb,rc,h1,h2,tvL,t0,t1,t2];(with_reducible first|refine hK ?_|refine hJ ?_);clear hK hJ K J))
  simp +decide only[go_sem]
  try rfl
theorem yZo (t:Int) (ht:Tri t):zA (XG GK) TT 127 [.int .i64 t]=some (.int .i64 (yHb t)):=by
 have h1:=zKf (G:=GK) t
 have he:yHb t=bif rkB t==0 then 1 else bif rkB t==1 then 2 else 0:=by
  rcases ht with rfl|rfl|rfl<;>rfl
 have r1:=zQk t
 rw[he]
 generalize rkB t=a at *
 refine zD T127 rfl (by simp only[go_sem]) ?_
 unfold Tryz.f127 xKp
 simp only[Option.getD_some]
 have t0:Int.toNat 0=0:=rfl
 have t1:Int.toNat 1=1:=rfl
 have t2:Int.toNat 2=2:=rfl
 have w0:IntKind.i64.wrap (2-0)=2:=rfl
 have w1:IntKind.i64.wrap (2-1)=1:=rfl
 have w2:IntKind.i64.wrap (2-2)=0:=rfl
 simp +decide only[go_sem]
 rcases r1 with rfl|rfl|rfl
 ·repeat (first|(with_reducible first|refine q1 ?_|refine q2 ?_|refine q3 ?_|refine q4 ?_|refine q5 ?_|refine q6 ?_|refine q7 ?_|refine q8 ?_|refine q9 ?_|refine q10 ?_|refine q11 ?_|refine q12 (by decide) ?_)|((first|with_reducible refine q13 ?_|((with_reducible refine q14 ?_ ?_);focus exact rfl));intro K hK;simp +decide only[go_sem,h1,tvL,t2,w0];with_reducible refine hK _ ?_;clear hK K)|(with_reducible refine q15 ?_;intro K J hK hJ;simp +decide only[go_sem,ra,rb,rc,h1,tvL,t0,t1,t2,w0,w1,w2];(with_reducible first|refine hK ?_|refine hJ ?_);clear hK hJ K J))
  simp +decide only[go_sem]
  try rfl
 ·repeat (first|(with_reducible first|refine q1 ?_|refine q2 ?_|refine q3 ?_|refine q4 ?_|refine q5 ?_|refine q6 ?_|refine q7 ?_|refine q8 ?_|refine q9 ?_|refine q10 ?_|refine q11 ?_|refine q12 (by decide) ?_)|((first|with_reducible refine q13 ?_|((with_reducible refine q14 ?_ ?_);focus exact rfl));intro K hK;simp +decide only[go_sem,h1,tvL,t1,w1];with_reducible refine hK _ ?_;clear hK K)|(with_reducible refine q15 ?_;intro K J hK hJ;simp +decide only[go_sem,ra,rb,rc,h1,tvL,t0,t1,t2,w0,w1,w2];(with_reducible first|refine hK ?_|refine hJ ?_);clear hK hJ K J))
  simp +decide only[go_sem]
  try rfl
 ·repeat (first|(with_reducible first|refine q1 ?_|refine q2 ?_|refine q3 ?_|refine q4 ?_|refine q5 ?_|refine q6 ?_|refine q7 ?_|refine q8 ?_|refine q9 ?_|refine q10 ?_|refine q11 ?_|refine q12 (by decide) ?_)|((first|with_reducible refine q13 ?_|((with_reducible refine q14 ?_ ?_);focus exact rfl));intro K hK;simp +decide only[go_sem,h1,tvL,t0,w2];with_reducible refine hK _ ?_;clear hK K)|(with_reducible refine q15 ?_;intro K J hK hJ;simp +decide only[go_sem,ra,rb,rc,h1,tvL,t0,t1,t2,w0,w1,w2];(with_reducible first|refine hK ?_|refine hJ ?_);clear hK hJ K J))
  simp +decide only[go_sem]
  try rfl
theorem yKh (op n:Int) (h:10<=op/\op<=15):zA (XG G) TT 131 [.int .i64 op,.int .i64 n]=some (.bool (yIe op n)):=by
 refine zD T131 rfl (by simp only[go_sem]) ?_
 unfold Tryz.f131 xKm
 simp only[Option.getD_some]
 unfold yIe
 simp +decide only[go_sem,ra]
 by_cases h10:op=10
 ·have f10:(op==10)=true:=by simp[h10]
  rw[if_pos h10]
  refine gw f10 ?_
  simp +decide only[go_sem]
 have f10:(op==10)=false:=by simp[h10]
 rw[if_neg h10]
 by_cases h11:op=11
 ·have f11:(op==11)=true:=by simp[h11]
  rw[if_pos h11]
  refine gw (an f10 f11) ?_
  simp +decide only[go_sem]
 have f11:(op==11)=false:=by simp[h11]
 rw[if_neg h11]
 by_cases h12:op=12
 ·have f12:(op==12)=true:=by simp[h12]
  rw[if_pos h12]
  refine gw (an3 f10 f11 f12) ?_
  simp +decide only[go_sem]
 have f12:(op==12)=false:=by simp[h12]
 rw[if_neg h12]
 by_cases h13:op=13
 ·have f13:(op==13)=true:=by simp[h13]
  rw[if_pos h13]
  refine gw (an4 f10 f11 f12 f13) ?_
  simp +decide only[go_sem]
 have f13:(op==13)=false:=by simp[h13]
 rw[if_neg h13]
 by_cases h14:op=14
 ·have f14:(op==14)=true:=by simp[h14]
  rw[if_pos h14]
  refine gw (an5 f10 f11 f12 f13 f14) ?_
  simp +decide only[go_sem]
 have f14:(op==14)=false:=by simp[h14]
 rw[if_neg h14]
 refine gw (an5 f10 f11 f12 f13 f14) ?_
 simp +decide only[go_sem]
end Go.Eng
namespace Go.Eng
open Go
abbrev St8 :=List UInt8
def skF (p:St8) (f:Nat->Bool):Nat->Nat->Bool
 |0=>f
 |k+1=>if p[k]?=some 37/\skF p f k k=true then λj=>if j=k+1 then true else skF p f k j else skF p f k
def nxF (p:St8) (x:UInt8) (r:Nat->Bool):Nat->Nat->Bool
 |0=>λ_=>false
 | k+1=>if r k=true then(match p[k]? with
   |some c=>if c=37 then λj=>if j=k then true else nxF p x r k j else if c=95\/c=x then λj=>if j=k+1 then true else nxF p x r k j else nxF p x r k
   |none=>nxF p x r k) else nxF p x r k
theorem yPe (p:St8) (f:Nat->Bool):∀(k j:Nat),k<j->skF p f k j=f j
 |0,j,_=>rfl
 |k+1,j,h=>by
  unfold skF
  split
  ·simp only;rw[if_neg (by omega),yPe p f k j (by omega)]
  ·exact yPe p f k j (by omega)
theorem yIa (p:St8) (f:Nat->Bool):∀(k j:Nat),j<=k->skF p f k j=skF p f j j
 |0,j,h=>by
  have e:j=0:=by omega
  subst e;rfl
 | k+1,j,h=>by
  by_cases e:j=k+1
  ·subst e;rfl
  ·have ih:=yIa p f k j (by omega)
   conv=>lhs;unfold skF
   split
   ·simp only;rw[if_neg e];exact ih
   ·exact ih
theorem yDi (p:St8) (f:Nat->Bool) (n:Nat):skF p f n 0=f 0:=by rw[yIa p f n 0 (by omega)];rfl
theorem yDj (p:St8) (f:Nat->Bool) {n i:Nat} (h:i<n):skF p f n (i+1)=(f (i+1)||(p[i]?==some 37&&skF p f n i)):=by
 rw[yIa p f n (i+1) (by omega),yIa p f n i (by omega)]
 conv=>lhs;unfold skF
 have e:skF p f i (i+1)=f (i+1):=yPe p f i (i+1) (by omega)
 split
 ·rename_i hc;simp only[if_pos];rw[hc.1,hc.2];simp
 ·rename_i hc
  rw[e]
  have:(p[i]?==some 37&&skF p f i i)=false:=by
   cases e1:(p[i]?==some 37&&skF p f i i) with
   |false=>rfl
   |true=>simp only[Bool.and_eq_true,beq_iff_eq] at e1;exact absurd e1 hc
  rw[this,Bool.or_false]
def nxC (p:St8) (x:UInt8) (r:Nat->Bool) (n i:Nat):Bool:=
 (decide (i<n)&&(r i&&p[i]?==some 37))||(match i with
  |0=>false
  |j+1=>decide (j<n)&&(r j&&(match p[j]? with|some c=>c != 37&&(c==95||c==x)|none=>false)))
theorem yPf (p:St8) (x:UInt8) (r:Nat->Bool):∀(n:Nat),n<=p.length->∀i,nxF p x r n i=nxC p x r n i
 |0,_,i=>by unfold nxF nxC;cases i<;>simp
 | n +1,hn,i=>by
  have ih:=yPf p x r n (by omega) i
  obtain⟨c,hc⟩:∃c,p[n]?=some c:=⟨_,List.getElem?_eq_getElem (by omega)⟩
  unfold nxF
  simp only[hc]
  have key:nxC p x r (n+1) i=(nxC p x r n i||((decide (i=n)&&(r n&&c==37))||(decide (i=n+1)&&(r n&&(c != 37&&(c==95||c==x)))))):=by
   unfold nxC
   have d1:decide (i<n+1)=(decide (i<n)||decide (i=n)):=by rw[Bool.eq_iff_iff];simp;omega
   have x1:(decide (i=n)&&(r i&&p[i]?==some 37))=(decide (i=n)&&(r n&&c==37)):=by
    by_cases e:i=n
    ·subst e;rw[hc];simp
    ·simp[e]
   rw[d1,Bool.and_or_distrib_right,x1]
   cases i with
   |zero=>
    have d3:decide (0=n+1)=false:=by simp
    rw[d3]
    simp only[Bool.or_false,Bool.false_and]
   | succ j=>
    have d2:decide (j<n+1)=(decide (j<n)||decide (j=n)):=by rw[Bool.eq_iff_iff];simp;omega
    have d3:decide (j+1=n+1)=decide (j=n):=by rw[Bool.eq_iff_iff];simp
    have x2:(decide (j=n)&&(r j&&(match p[j]? with|some c=>c != 37&&(c==95||c==x)|none=>false)))=(decide (j=n)&&(r n&&(c != 37&&(c==95||c==x)))):=by
     by_cases e:j=n
     ·subst e;rw[hc]
     ·simp[e]
    simp only[d2,d3]
    rw[Bool.and_or_distrib_right (decide (j<n)),x2]
    ac_rfl
  rw[key,<-ih]
  cases hr:r n
  ·simp
  ·by_cases h37:c=37
   ·subst h37
    by_cases e:i=n<;>simp[e]
   ·by_cases h2:c=95\/c=x
    ·have:(c==95||c==x)=true:=by simpa using h2
     by_cases e:i=n+1<;>simp[h37,h2,e,this]
    ·have:(c==95||c==x)=false:=by simp at h2 ⊢;exact h2
     simp[h37,h2,this]
def rch (p t:St8) (k i:Nat):Bool:=xJ p t k i||(p[i]?==some 37&&(List.range k).any λk'=>xJ p t k' i)
theorem zNu (p t:St8) (k j:Nat) {c:UInt8} (h:p[j]?=some c):xJ p t k (j+1)=if c=37 then(List.range (k+1)).any λi'=>xJ p t i' j else(match k with
   |0=>false
   |i+1=>xJ p t i j&&(c==95||t[i]?==some c)):=by
 rw[xJ];simp only[h];cases k<;>rfl
theorem zPa (p t:St8) (i:Nat):rch p t 0 i=xJ p t 0 i:=by unfold rch;simp
theorem zRj (p t:St8):∀i,i<=p.length->skF p (λi=>i==0) p.length i=rch p t 0 i
 |0,_=>by rw[yDi,zPa];rfl
 |i+1,h=>by
  obtain⟨c,hc⟩:∃c,p[i]?=some c:=⟨_,List.getElem?_eq_getElem (by omega)⟩
  rw[yDj p _ (by omega),zRj p t i (by omega),zPa,zPa,zNu p t 0 i hc,hc]
  by_cases e:c=37
  ·subst e;simp
  ·simp[e]
theorem zPt (n:Nat) (f:Nat->Bool):(List.range (n+1)).any f=((List.range n).any f||f n):=by
 rw[List.range_succ,List.any_append];simp
theorem zXc (p t:St8) (k:Nat) {x:UInt8} (hx:t[k]?=some x):∀i,i<=p.length->skF p (nxF p x (rch p t k) p.length) p.length i=rch p t (k+1) i
 | 0,_=>by
  rw[yDi,yPf p x _ _ (Nat.le_refl _)]
  unfold nxC
  simp only[Bool.or_false]
  unfold rch
  rw[zPt]
  have:xJ p t (k+1) 0=false:=rfl
  rw[this,Bool.false_or]
  cases h37:(p[0]?==some 37)
  ·simp
  ·have hl:0<p.length:=by
    rcases Nat.lt_or_ge 0 p.length with h|h
    ·exact h
    ·rw[List.getElem?_eq_none h] at h37;cases h37
   simp[hl];rw[Bool.or_comm]
 | i +1,h=>by
  obtain⟨c,hc⟩:∃c,p[i]?=some c:=⟨_,List.getElem?_eq_getElem (by omega)⟩
  rw[yDj p _ (by omega),zXc p t k hx i (by omega),yPf p x _ _ (Nat.le_refl _)]
  unfold nxC
  simp only[hc]
  have hi:decide (i<p.length)=true:=by simp;omega
  rw[hi,Bool.true_and]
  have hA:(decide (i+1<p.length)&&(rch p t k (i+1)&&p[i+1]?==some 37))=(p[i+1]?==some 37&&(List.range (k+1)).any λk'=>xJ p t k' (i+1)):=by
   rw[zPt]
   cases h37:(p[i+1]?==some 37)
   ·simp
   ·have hl:i+1<p.length:=by
     rcases Nat.lt_or_ge (i+1) p.length with h|h
     ·exact h
     ·rw[List.getElem?_eq_none h] at h37;cases h37
    unfold rch
    simp only[h37,hl,decide_true,Bool.true_and,Bool.and_true]
    rw[Bool.or_comm]
  rw[hA]
  have hB:rch p t (k+1) (i+1)=(xJ p t (k+1) (i+1)||(p[i+1]?==some 37&&(List.range (k+1)).any λk'=>xJ p t k' (i+1))):=rfl
  rw[hB,zNu p t (k+1) i hc]
  generalize (p[i+1]?==some 37&&(List.range (k+1)).any λk'=>xJ p t k' (i+1))=z
  by_cases e:c=37
  ·subst e
   simp only[if_pos]
   have:rch p t (k+1) i=((List.range (k+1+1)).any λi'=>xJ p t i' i):=by
    rw[zPt];unfold rch;rw[hc];simp;rw[Bool.or_comm]
   rw[this]
   simp;rw[Bool.or_comm]
  ·rw[if_neg e]
   show _=((xJ p t k i&&(c==95||t[k]?==some c))||z)
   have:rch p t k i=xJ p t k i:=by unfold rch;rw[hc];simp[e]
   rw[this,hx]
   have e1:(some c==some 37)=false:=by simp[e]
   have e2:(c != 37)=true:=by simp[e]
   have e3:(some x==some c)=(c==x):=by
    rw[Bool.eq_iff_iff];simp;exact eq_comm
   simp only[e1,e2,e3,Bool.false_and,Bool.or_false,Bool.true_and]
   rw[Bool.or_comm]
theorem yJp (p t:St8):rch p t t.length p.length=zZb t p:=by unfold rch zZb;simp
end Go.Eng
