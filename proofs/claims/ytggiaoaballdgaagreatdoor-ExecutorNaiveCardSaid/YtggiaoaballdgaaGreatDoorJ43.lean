/- A part of the proof: see the last text. -/
import Derived.Test.YtggiaoaballdgaaGreatDoorJ42
set_option linter.unusedSimpArgs false
set_option linter.unusedVariables false
namespace Go.Eng
open Go Go.Proofs
open Nat renaming reduceAdd → ra, reduceMul → rb, reduceSub → rc
set_option maxRecDepth 20000
set_option maxHeartbeats 32000000
attribute [local irreducible] wpI xU
variable {G:Nat->Option (List D)}
theorem zVf {cols:List Col} {x:I64} {c:Col} (h:atI cols x.1=some c):zHn cols x=c.name:=by unfold zHn;rw[h]
theorem zPc (t:Tbl) (l:Sl I64) (hl:l.items.length<=100) (hin:inC t.cols.items l.items):zA (XG G) TT 160 [zQ t,sl 1 I l]=some (sl 1 S (cn (l.items.map (zHn t.cols.items)))):=by
 rw[<-qF 1 S (by rw[List.length_map];omega)]
 refine zD T160 rfl (by simp only[go_sem]) ?_
 unfold Tryz.f160 xJw
 simp only[Option.getD_some]
 simp +decide only[go_sem,ra]
 refine gw trivial ?_
 refine lpC (T:=Nat) [1,2,5,6] (λk=>[(6,.int .i64 (k:Int)),(5,zMm 1 (((l.items.take k).map (zHn t.cols.items)).map S))]) (λ_=>[]) (λk=>⟨[],zVv (((l.items.take k).map (zHn t.cols.items)).map S)⟩) (λk=>k<=l.items.length) (λk=>l.items.length-k) 0 (by simp) ?_
 rintro k hk
 by_cases h:k<l.items.length
 ·obtain⟨l_x,x,g_x,w_x⟩:=elm (L:=l.items) (k:=k) (by assumption) (by omega)
  obtain⟨c,hc⟩:=hin x (List.mem_of_getElem? g_x)
  have hl:((((l.items.take k).map (zHn t.cols.items)).map S).length+1<=16777216)=True:=by
   have:(((l.items.take k).map (zHn t.cols.items)).map S).length<=l.items.length:=by simp only[List.length_map];exact List.length_take_le' ..
   simp only[eq_iff_iff,iff_true];omega
  refine gw (an5 l_x g_x w_x hl hc) ?_
  refine⟨k+1,?_,by omega,by omega⟩
  rw[List.take_add_one,g_x,List.map_append,List.map_append]
  simp only[Option.toList_some,List.map_cons,List.map_nil,zVf hc]
  exact by simp +decide only[go_sem]<;>rfl
 ·have l_x:((k:Int)<((l.items).length:Int))=False:=by simp;omega
  rw[List.take_of_length_le (by omega)]
  refine gw l_x ?_
  simp +decide only[go_sem]
  exact uZ (zWv _)
def kn (t:Tbl) (k:Sl I64):Sl Str:=cn (k.items.map (zHn t.cols.items))
def fgS (s:List Tbl) (t:Tbl) (f:Fgn):FgS:=match atI s f.table.1 with
 |some u=>⟨kn t f.cols,u.name,match atI u.keys.items f.key.1 with|some k=>kn u k|none=>yHc⟩
 |none=>⟨yHc,[],yHc⟩
def one :I64:=⟨1,by decide⟩
def zVs (s:List Tbl) (t:Tbl):Stm:=⟨one,t.name,t.cols,cn (t.keys.items.map (kn t)),cn (t.fgns.items.map (fgS s t)),t.checks,zWi⟩
def FgI (s:List Tbl) (t:Tbl) (f:Fgn):Prop:=inC t.cols.items f.cols.items/\∃u k,atI s f.table.1=some u/\atI u.keys.items f.key.1=some k/\inC u.cols.items k.items/\k.items.length<=100
theorem xPg (s:Sl Tbl) (n:Nat) (t:Tbl) (ht:s.items[n]?=some t) (hs:zHr t) (hk:∀k∈t.keys.items,inC t.cols.items k.items) (hf:∀f∈t.fgns.items,FgI s.items t f) :
  zA (XG G) TT 101 [sl 5 zQ s,.int .i64 (n:Int)]=some (wL (zVs s.items t)):=by
 obtain⟨x1,x2,x3,x4,x5,x6,x7,x8,x9⟩:=hs
 have hkl:=t.keys.lt
 have hfl:=t.fgns.lt
 refine zD T101 rfl (by simp only[go_sem]) ?_
 unfold Tryz.f101 xLj
 simp only[Option.getD_some]
 simp +decide only[go_sem,ra]
 refine gw ht ?_
 refine lpC (T:=Nat) [0,4,5,6,7] (λk=>[(7,.int .i64 (k:Int))]) (λk=>[(6,[.int .i64 1,.str t.name,sl 6 yO t.cols,zAl [] 1 (((t.keys.items.take k).map (kn t)).map (sl 1 S)),.nil,sl 8 zM t.checks,.nil,.nil,.nil,.nil,.int .i64 0,.str [],.str [],.int .i64 0,.int .i64 0,.int .i64 0,.str [],.nil,.nil,.nil,.int .i64 0,.str []])]) (λk=>⟨[],zIs [] (((t.keys.items.take k).map (kn t)).map (sl 1 S))⟩) (λk=>k<=t.keys.items.length) (λk=>t.keys.items.length-k) 0 (by simp) ?_
 rintro k hkk
 by_cases h:k<t.keys.items.length
 ·obtain⟨l_y,y,g_y,w_y⟩:=elm (L:=t.keys.items) (k:=k) (by assumption) (by omega)
  have c1:=zPc (G:=G) t y (by have:=x5 y (List.mem_of_getElem? g_y);omega) (hk y (List.mem_of_getElem? g_y))
  simp only[xQ] at c1
  have hle:((((t.keys.items.take k).map (kn t)).map (sl 1 S)).length+1<=16777216)=True:=by
   have:(((t.keys.items.take k).map (kn t)).map (sl 1 S)).length<=t.keys.items.length:=by simp only[List.length_map];exact List.length_take_le' ..
   simp only[eq_iff_iff,iff_true];omega
  refine gw (an6 ht l_y g_y w_y c1 hle) ?_
  refine⟨k+1,?_,by omega,by omega⟩
  rw[List.take_add_one,g_y,List.map_append,List.map_append]
  simp only[Option.toList_some,List.map_cons,List.map_nil,kn]
  exact by simp +decide only[go_sem]<;>rfl
 have l_e1:((k:Int)<((t.keys.items).length:Int))=False:=by simp;omega
 rw[List.take_of_length_le (by omega)]
 have hkst:∀q,zF q (zAl [] 1 ((t.keys.items.map (kn t)).map (sl 1 S)))=sl 1 (sl 1 S) (cn (t.keys.items.map (kn t))):=λq=>by rw[qM (zL _ (λy=>zQu 1 y) _),qF _ _ (by rw[List.length_map];omega)]
 generalize hK:zAl [] 1 ((t.keys.items.map (kn t)).map (sl 1 S))=kD at *
 generalize hT:zIs [] ((t.keys.items.map (kn t)).map (sl 1 S))=tk at *
 have hkok:kD.okC=true:=by rw[<-hK];exact zXi _ _ _
 have hkc:kD.cells=[kD]:=by rw[<-hK];exact zOb _ _ _
 refine gw (an5 ht l_e1 hkst hkok hkc) ?_
 refine lpC (T:=Nat) [0,4,5,6,8] (λk=>[(8,.int .i64 (k:Int))]) (λk=>[(6,[.int .i64 1,.str t.name,sl 6 yO t.cols,kD,zAl tk 3 (((t.fgns.items.take k).map (fgS s.items t)).map uM),sl 8 zM t.checks,.nil,.nil,.nil,.nil,.int .i64 0,.str [],.str [],.int .i64 0,.int .i64 0,.int .i64 0,.str [],.nil,.nil,.nil,.int .i64 0,.str []])]) (λk=>⟨[],zIs tk (((t.fgns.items.take k).map (fgS s.items t)).map uM)⟩) (λk=>k<=t.fgns.items.length) (λk=>t.fgns.items.length-k) 0 (by simp) ?_
 rintro k hkk
 by_cases h:k<t.fgns.items.length
 ·obtain⟨l_y,y,g_y,w_y⟩:=elm (L:=t.fgns.items) (k:=k) (by assumption) (by omega)
  obtain⟨f1,u,z,f2,f3,f4,f5⟩:=hf y (List.mem_of_getElem? g_y)
  have c1:=zPc (G:=G) t y.cols (by have:=x6 y (List.mem_of_getElem? g_y);omega) f1
  have c2:=zPc (G:=G) u z f5 f4
  simp only[xQ] at c1 c2
  have hle:((((t.fgns.items.take k).map (fgS s.items t)).map uM).length+1<=16777216)=True:=by
   have:(((t.fgns.items.take k).map (fgS s.items t)).map uM).length<=t.fgns.items.length:=by simp only[List.length_map];exact List.length_take_le' ..
   simp only[eq_iff_iff,iff_true];omega
  refine gw (an9 ht l_e1 hkst hkok hkc l_y g_y w_y (an5 c1 c2 f2 f3 hle)) ?_
  refine⟨k+1,?_,by omega,by omega⟩
  rw[List.take_add_one,g_y,List.map_append,List.map_append]
  simp only[Option.toList_some,List.map_cons,List.map_nil,fgS,f2,f3,kn]
  exact by simp +decide only[go_sem]<;>rfl
 have l_e2:((k:Int)<((t.fgns.items).length:Int))=False:=by simp;omega
 rw[List.take_of_length_le (by omega)]
 have hfst:∀q,zF q (zAl tk 3 ((t.fgns.items.map (fgS s.items t)).map uM))=sl 3 uM (cn (t.fgns.items.map (fgS s.items t))):=λq=>by rw[qM (zL _ (λy=>zQx y) _),qF _ _ (by rw[List.length_map];omega)]
 refine gw (an6 ht l_e1 hkst hkok hkc l_e2) ?_
 simp +decide only[go_sem,ra,hkst,hfst]
 all_goals (first|rfl|(rw[hkst,hfst];rfl))
theorem yXw (t:Tbl) (l:Sl I64):zA (XG G) TT 100 [zQ t,sl 1 I l]=some (.bool (l.items.all (inB t.cols.items.length))):=by
 refine zD T100 rfl (by simp only[go_sem]) ?_
 unfold Tryz.f100 xLk
 simp only[Option.getD_some]
 have hlt:=l.lt
 simp +decide only[go_sem,ra]
 refine gw trivial ?_
 refine lpC (T:=Nat) [1,2,5] (λk=>[(5,.int .i64 (k:Int))]) (λ_=>[]) (λ_=>⟨[],[]⟩) (λk=>k<=l.items.length/\(l.items.take k).all (inB t.cols.items.length)=true) (λk=>l.items.length-k) 0 (by simp) ?_
 rintro k ⟨hk,hP⟩
 by_cases h:k<l.items.length
 ·obtain⟨l_x,x,g_x,w_x⟩:=elm (L:=l.items) (k:=k) (by assumption) (by omega)
  by_cases b1:(x.1:Int)<0
  ·rw[zCs g_x (by unfold inB;rw[decide_eq_false (show ¬(0:Int)<=x.1 by omega)];rfl)]
   refine gw (an4 l_x g_x w_x b1) ?_
   simp +decide only[go_sem]
  by_cases b2:(t.cols.items.length:Int)<=x.1
  ·rw[zCs g_x (by unfold inB;rw[decide_eq_false (show ¬x.1<(t.cols.items.length:Int) by omega),Bool.and_false])]
   refine gw (an5 l_x g_x w_x b1 b2) ?_
   simp +decide only[go_sem]
  refine gw (an5 l_x g_x w_x b1 b2) ?_
  exact⟨k+1,by simp +decide only[go_sem]<;>rfl,⟨by omega,zDs hP g_x (by unfold inB;rw[decide_eq_true (show (0:Int)<=x.1 by omega),decide_eq_true (show x.1<(t.cols.items.length:Int) by omega)];rfl)⟩,by omega⟩
 ·have l_x:((k:Int)<((l.items).length:Int))=False:=by simp;omega
  rw[List.take_of_length_le (by omega)] at hP
  refine gw l_x ?_
  simp +decide only[go_sem]
  rw[hP]
def xEj (t:Tbl) (k:Sl I64):Bool:=k.items.all (inB t.cols.items.length)
def yBe (s:List Tbl) (n:Nat) (t:Tbl) (f:Fgn):Bool:=f.cols.items.all (inB t.cols.items.length)&&(decide (0<=f.table.1)&&(decide (f.table.1<=(n:Int))&&(decide (0<=f.key.1)&&match atI s f.table.1 with
 |some u=>decide (f.key.1<(u.keys.items.length:Int))
 |none=>false)))
def yHe (s:List Tbl):Nat->List Tbl->Bool
 |_,[]=>true
 |n,t::r=>(t.keys.items.all (xEj t)&&t.fgns.items.all (yBe s n t))&&yHe s (n+1) r
def bOk :Except (Nat×Int) (List Tbl)->Bool
 |.ok _=>true
 |.error (_,e)=>e==0
theorem zTz {s:List Tbl}:∀(l:List Tbl) (k:Nat),yHe s k l=true->∀(n:Nat) (t:Tbl),l[n]?=some t->t.keys.items.all (xEj t)=true/\t.fgns.items.all (yBe s (k+n) t)=true
 |[],_,_,n,t,h=>by simp at h
 | a::r,k,h,n,t,ht=>by
  rw[yHe,Bool.and_eq_true,Bool.and_eq_true] at h
  cases n with
  |zero=>simp at ht;subst ht;exact h.1
  |succ n=>
   have:=zTz r (k+1) h.2 n t (by simpa using ht)
   rw[show k+(n+1)=k+1+n by omega];exact this
theorem zUm {cols:List Col} {l:List I64} (h:l.all (inB cols.length)=true):inC cols l:=λx hx=>by
 have:=List.all_eq_true.1 h x hx
 simp only[inB,Bool.and_eq_true,decide_eq_true_eq] at this
 exact yCr this.1 this.2
theorem zOt {α:Type} {l:List α} {n:Int} {a:α} (h:atI l n=some a):∃k:Nat,n=k/\l[k]?=some a:=by
 cases n with
 |ofNat k=>exact⟨k,rfl,h⟩
 |negSucc k=>cases h
theorem yDs {s:List Tbl} (hs:∀t∈s,zHr t) (h:yHe s 0 s=true) {n:Nat} {t:Tbl} (ht:s[n]?=some t):(∀k∈t.keys.items,inC t.cols.items k.items)/\∀f∈t.fgns.items,FgI s t f:=by
 obtain⟨h1,h2⟩:=zTz s 0 h n t ht
 refine⟨λk hk=>zUm (List.all_eq_true.1 h1 k hk),λf hf=>?_⟩
 have:=List.all_eq_true.1 h2 f hf
 simp only[yBe,Bool.and_eq_true,decide_eq_true_eq] at this
 obtain⟨g1,g2,g3,g4,g5⟩:=this
 refine⟨zUm g1,?_⟩
 cases hu:atI s f.table.1 with
 |none=>rw[hu] at g5;cases g5
 |some u=>
  rw[hu] at g5
  have g5:f.key.1<(u.keys.items.length:Int):=by simpa using g5
  obtain⟨z,hz⟩:=yCr g4 g5
  obtain⟨i,_,hi⟩:=zOt hu
  obtain⟨j,_,hj⟩:=zOt hz
  have hzm:=List.mem_of_getElem? hj
  refine⟨u,z,rfl,hz,zUm (List.all_eq_true.1 (zTz s 0 h i u hi).1 z hzm),?_⟩
  obtain⟨x1,x2,x3,x4,x5,_⟩:=hs u (List.mem_of_getElem? hi)
  have:=x5 z hzm;omega
theorem yNg (t:Tbl) (k:Sl I64):(kn t k).items.length=k.items.length:=by
 unfold kn;rw[yR (by rw[List.length_map];exact k.lt),List.length_map]
theorem yAm {s:List Tbl} (hs:∀t∈s,zHr t) {t:Tbl} (ht:t∈s) (hf:∀f∈t.fgns.items,FgI s t f):zHs (zVs s t):=by
 obtain⟨x1,x2,x3,x4,x5,x6,x7,x8,x9⟩:=hs t ht
 refine⟨x1,?_,?_,x4,x7,x8,?_,?_,x9⟩
 ·show (cn _).items.length<=10
  rw[yR (by rw[List.length_map];exact t.keys.lt),List.length_map];exact x2
 ·show (cn _).items.length<=10
  rw[yR (by rw[List.length_map];exact t.fgns.lt),List.length_map];exact x3
 ·intro k hk
  have hk:k∈(cn (t.keys.items.map (kn t))).items:=hk
  rw[yR (by rw[List.length_map];exact t.keys.lt)] at hk
  obtain⟨k0,h0,rfl⟩:=List.mem_map.1 hk
  rw[yNg];exact x5 k0 h0
 ·intro f hfm
  have hfm:f∈(cn (t.fgns.items.map (fgS s t))).items:=hfm
  rw[yR (by rw[List.length_map];exact t.fgns.lt)] at hfm
  obtain⟨f0,h0,rfl⟩:=List.mem_map.1 hfm
  obtain⟨g1,u,z,g2,g3,g4,g5⟩:=hf f0 h0
  simp only[fgS,g2,g3,yNg]
  refine⟨x6 f0 h0,?_⟩
  obtain⟨i,_,hi⟩:=zOt g2
  obtain⟨j,_,hj⟩:=zOt g3
  obtain⟨_,_,_,_,y5,_⟩:=hs u (List.mem_of_getElem? hi)
  exact y5 z (List.mem_of_getElem? hj)
theorem xLl (s:Sl Tbl) (hs:∀t∈s.items,zHr t) (hl:s.items.length<=12):zA (XG GK) TT 57 [sl 5 zQ s]=some (.bool (yHe s.items 0 s.items&&bOk (yMp zYx [] (s.items.map (zVs s.items))))):=by
 refine zD T57 rfl (by simp only[go_sem]) ?_
 unfold Tryz.f57 F57
 simp only[Option.getD_some]
 have hslt:=s.lt
 simp +decide only[go_sem]
 refine gw trivial ?_
 refine lpC (T:=Nat) [0,3] (λk=>[(3,.int .i64 (k:Int))]) (λ_=>[]) (λ_=>⟨[],[]⟩) (λk=>k<=s.items.length/\yHe s.items k (s.items.drop k)=yHe s.items 0 s.items) (λk=>s.items.length-k) 0 (by simp) ?_
 rintro n ⟨hn,hP⟩
 by_cases h:n<s.items.length
 ·obtain⟨l_t,t,g_t,w_t⟩:=elm (L:=s.items) (k:=n) (by assumption) (by omega)
  rw[zCk g_t,yHe] at hP
  have hklt:=t.keys.lt
  have hflt:=t.fgns.lt
  refine gw (an3 l_t g_t w_t) ?_
  refine lpC (T:=Nat) [0,3,4] (λk=>[(4,.int .i64 (k:Int))]) (λ_=>[]) (λ_=>⟨[],[]⟩) (λk=>k<=t.keys.items.length/\(t.keys.items.take k).all (xEj t)=true) (λk=>t.keys.items.length-k) 0 (by simp) ?_
  rintro k ⟨hk,hQ⟩
  by_cases h1:k<t.keys.items.length
  ·obtain⟨l_y,y,g_y,w_y⟩:=elm (L:=t.keys.items) (k:=k) (by assumption) (by omega)
   have c1:=yXw (G:=GK) t y
   simp only[xQ] at c1
   cases d:(y.items.all (inB t.cols.items.length))
   ·rw[zCs (p:=xEj t) g_y d,Bool.false_and,Bool.false_and] at hP
    refine gw (an8 l_t g_t w_t l_y g_y w_y c1 d) ?_
    simp +decide only[go_sem]
    rw[<-hP]
    all_goals rfl
   ·refine gw (an8 l_t g_t w_t l_y g_y w_y c1 d) ?_
    exact⟨k+1,by simp +decide only[go_sem]<;>rfl,⟨by omega,zDs hQ g_y d⟩,by omega⟩
  have l_e1:((k:Int)<((t.keys.items).length:Int))=False:=by simp;omega
  rw[List.take_of_length_le (by omega)] at hQ
  rw[hQ,Bool.true_and] at hP
  refine gw (an4 l_t g_t w_t l_e1) ?_
  refine lpC (T:=Nat) [0,3,5] (λk=>[(5,.int .i64 (k:Int))]) (λ_=>[]) (λ_=>⟨[],[]⟩) (λk=>k<=t.fgns.items.length/\(t.fgns.items.take k).all (yBe s.items n t)=true) (λk=>t.fgns.items.length-k) 0 (by simp) ?_
  rintro k2 ⟨hk2,hR⟩
  by_cases h2:k2<t.fgns.items.length
  ·obtain⟨l_f,f,g_f,w_f⟩:=elm (L:=t.fgns.items) (k:=k2) (by assumption) (by omega)
   have c2:=yXw (G:=GK) t f.cols
   simp only[xQ] at c2
   have bad:yBe s.items n t f=false->yHe s.items 0 s.items=false:=λe=>by
    rw[zCs (p:=yBe s.items n t) g_f e,Bool.false_and] at hP;exact hP.symm
   cases d:(f.cols.items.all (inB t.cols.items.length))
   ·refine gw (an9 l_t g_t w_t l_e1 l_f g_f w_f c2 d) ?_
    simp +decide only[go_sem]
    rw[bad (by unfold yBe;rw[d];rfl)]
    all_goals rfl
   by_cases b1:(f.table.1:Int)<0
   ·refine gw (an9 l_t g_t w_t l_e1 l_f g_f w_f c2 (an d b1)) ?_
    simp +decide only[go_sem]
    rw[bad (by unfold yBe;rw[decide_eq_false (show ¬(0:Int)<=f.table.1 by omega),Bool.false_and,Bool.and_false])]
    all_goals rfl
   by_cases b2:(n:Int)<(f.table.1:Int)
   ·refine gw (an9 l_t g_t w_t l_e1 l_f g_f w_f c2 (an3 d b1 b2)) ?_
    simp +decide only[go_sem]
    rw[bad (by unfold yBe;rw[decide_eq_false (show ¬f.table.1<=(n:Int) by omega),Bool.false_and,Bool.and_false,Bool.and_false])]
    all_goals rfl
   by_cases b3:(f.key.1:Int)<0
   ·refine gw (an9 l_t g_t w_t l_e1 l_f g_f w_f c2 (an4 d b1 b2 b3)) ?_
    simp +decide only[go_sem]
    rw[bad (by unfold yBe;rw[decide_eq_false (show ¬(0:Int)<=f.key.1 by omega),Bool.false_and,Bool.and_false,Bool.and_false,Bool.and_false])]
    all_goals rfl
   obtain⟨u,hu⟩:=yCr (l:=s.items) (n:=f.table.1) (by omega) (by omega)
   by_cases b4:(u.keys.items.length:Int)<=f.key.1
   ·refine gw (an9 l_t g_t w_t l_e1 l_f g_f w_f c2 (an6 d b1 b2 b3 hu b4)) ?_
    simp +decide only[go_sem]
    rw[bad (by unfold yBe;simp only[hu];rw[decide_eq_false (show ¬f.key.1<(u.keys.items.length:Int) by omega)];simp)]
    all_goals rfl
   refine gw (an9 l_t g_t w_t l_e1 l_f g_f w_f c2 (an6 d b1 b2 b3 hu b4)) ?_
   exact⟨k2+1,by simp +decide only[go_sem]<;>rfl,⟨by omega,zDs hR g_f (by
    unfold yBe
    simp only[hu]
    rw[d,decide_eq_true (show (0:Int)<=f.table.1 by omega),decide_eq_true (show f.table.1<=(n:Int) by omega),decide_eq_true (show (0:Int)<=f.key.1 by omega),decide_eq_true (show f.key.1<(u.keys.items.length:Int) by omega)]
    rfl)⟩,by omega⟩
  have l_e2:((k2:Int)<((t.fgns.items).length:Int))=False:=by simp;omega
  rw[List.take_of_length_le (by omega)] at hR
  rw[hR,Bool.true_and] at hP
  refine gw (an5 l_t g_t w_t l_e1 l_e2) ?_
  exact⟨n+1,by simp +decide only[go_sem]<;>rfl,⟨by omega,hP⟩,by omega⟩
 have l_e0:((n:Int)<((s.items).length:Int))=False:=by simp;omega
 rw[List.drop_eq_nil_of_le (by omega),yHe] at hP
 have hin:=hP.symm
 rw[hin,Bool.true_and]
 refine gw l_e0 ?_
 refine lpC (T:=Nat) [0,7,8] (λk=>[(8,.int .i64 (k:Int)),(7,zMm 22 (((s.items.take k).map (zVs s.items)).map wL))]) (λ_=>[]) (λk=>⟨[],zVv (((s.items.take k).map (zVs s.items)).map wL)⟩) (λk=>k<=s.items.length) (λk=>s.items.length-k) 0 (by simp) ?_
 rintro k hk
 by_cases h:k<s.items.length
 ·obtain⟨l_t,t,g_t,w_t⟩:=elm (L:=s.items) (k:=k) (by assumption) (by omega)
  obtain⟨i1,i2⟩:=yDs hs hin g_t
  have c3:=xPg (G:=GK) s k t g_t (hs t (List.mem_of_getElem? g_t)) i1 i2
  simp only[zGa] at c3
  have hle:((((s.items.take k).map (zVs s.items)).map wL).length+1<=16777216)=True:=by
   have:(((s.items.take k).map (zVs s.items)).map wL).length<=s.items.length:=by simp only[List.length_map];exact List.length_take_le' ..
   simp only[eq_iff_iff,iff_true];omega
  have htk:List.take 16 (zVs s.items t).rest.1=(zVs s.items t).rest.1:=List.take_of_length_le (by rw[zXa];exact Nat.le_refl _)
  refine gw (an7 l_e0 l_t g_t w_t c3 hle htk) ?_
  refine⟨k+1,?_,by omega,by omega⟩
  rw[List.take_add_one,g_t,List.map_append,List.map_append]
  simp only[Option.toList_some,List.map_cons,List.map_nil,zGa]
  exact by simp +decide only[go_sem]<;>rfl
 have l_e3:((k:Int)<((s.items).length:Int))=False:=by simp;omega
 rw[List.take_of_length_le (by omega)]
 have hml:(s.items.map (zVs s.items)).length<4611686018427387904:=by rw[List.length_map];omega
 have hst:zF noR (zMm 22 ((s.items.map (zVs s.items)).map wL))=sl 22 wL (cn (s.items.map (zVs s.items))):=by rw[uZ (zL _ (λy=>zQw y) _),qF _ _ hml]
 have c4:=xPn (cn (s.items.map (zVs s.items))) (by rw[yR hml,List.length_map];exact hl) (by
  rw[yR hml]
  intro x hx
  obtain⟨t,ht,rfl⟩:=List.mem_map.1 hx
  obtain⟨i,hi⟩:=List.mem_iff_getElem?.1 ht
  exact yAm hs ht (yDs hs hin hi).2)
 rw[yR hml] at c4
 generalize yMp zYx [] (s.items.map (zVs s.items))=o at *
 cases o with
 |ok r=>
  simp only[xHu] at c4
  refine gw (an4 l_e0 l_e3 hst c4) ?_
  simp +decide only[go_sem]
  all_goals rfl
 |error p=>
  obtain⟨i,e⟩:=p
  simp only[xHu] at c4
  refine gw (an4 l_e0 l_e3 hst c4) ?_
  simp +decide only[go_sem]
  all_goals rfl
end Go.Eng
