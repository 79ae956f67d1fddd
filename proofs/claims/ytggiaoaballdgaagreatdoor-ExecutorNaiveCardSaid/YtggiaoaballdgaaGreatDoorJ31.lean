/- A part of the proof: see the last text. -/
import Derived.Test.YtggiaoaballdgaaGreatDoorJ30
import Derived.Test.YtggiaoaballdgaaGreatDoorJ26
import Derived.Test.YtggiaoaballdgaaGreatDoorJ29
set_option linter.unusedSimpArgs false
set_option linter.unusedVariables false
namespace Go.Eng
open Go Go.Proofs
open Nat renaming reduceAdd → ra, reduceMul → rb, reduceSub → rc
set_option maxRecDepth 20000
set_option maxHeartbeats 32000000
attribute [local irreducible] wpI xU
variable {G:Nat->Option (List D)}
def GrD (k:Nat) (tk:List Nat) (d:D) (L:List D):Prop:=d=.slice (some 0) k L\/∃id,d=.slice (some (id+1)) k L/\tk[id]?=some L.length
theorem GrD.strip {g:Nat->Nat->Nat->Nat->D} {k:Nat} {tk:List Nat} {d:D} {L:List D} (h:GrD k tk d L) (hL:zC g L=L):zF g d=.slice none k L:=by
 rcases h with rfl|⟨id,rfl,_⟩<;>simp only[yY,hL]
theorem GrD.els {k:Nat} {tk:List Nat} {d:D} {L:List D} (h:GrD k tk d L) (m:Mem):zY m k d=some L:=by
 rcases h with rfl|⟨id,rfl,_⟩<;>simp[zY]
theorem GrD.no {k:Nat} {tk:List Nat} {d:D} {L:List D} (h:GrD k tk d L):d.isO=false/\d.okC=true/\d.cells=[d]:=by
 rcases h with rfl|⟨id,rfl,_⟩<;>exact⟨rfl,rfl,rfl⟩
theorem GrD.more {k:Nat} {tk tk2:List Nat} {d:D} {L:List D} (h:GrD k tk d L):GrD k (tk++tk2) d L:=by
 rcases h with rfl|⟨id,rfl,h⟩
 ·exact .inl rfl
 ·exact .inr ⟨id,rfl,by rw[List.getElem?_append_left (List.getElem?_eq_some_iff.1 h).1];exact h⟩
theorem GrD.add {k:Nat} {tk:List Nat} {d:D} {L:List D} (h:GrD k tk d L) (xs:List D):∃d' tk',(∀bx,zZ k ⟨bx,tk⟩ d xs=some (d',⟨bx,tk'⟩))/\GrD k tk' d' (L++xs):=by
 cases xs with
 |nil=>exact⟨d,tk,λ_=>rfl,by rw[List.append_nil];exact h⟩
 | cons x r=>
  rcases h with rfl|⟨id,rfl,h⟩
  ·exact⟨_,tk++[(L++x::r).length],λbx=>by simp[zZ],.inr ⟨tk.length,rfl,by simp⟩⟩
  ·refine⟨_,tk.set id (L++x::r).length,λbx=>by simp[zZ,h],.inr ⟨id,rfl,?_⟩⟩
   rw[List.getElem?_set_self (List.getElem?_eq_some_iff.1 h).1]
theorem ySr (k:Nat) (tk:List Nat) (f r:List D):∃d1 tk1 d2 tk2,(∀bx,zZ k ⟨bx,tk⟩ (.slice (some 0) k []) f=some (d1,⟨bx,tk1⟩))/\(∀m,zY m k d1=some f)/\(∀bx,zZ k ⟨bx,tk1⟩ d1 r=some (d2,⟨bx,tk++tk2⟩))/\(∃t,d2=.slice t k (f++r)):=by
 cases f with
 |nil=>
  refine⟨.slice (some 0) k [],tk,?_⟩
  cases r with
  |nil=>exact⟨.slice (some 0) k [],[],λ_=>rfl,λm=>by simp[zY],λ_=>by rw[List.append_nil];rfl,some 0,rfl⟩
  |cons x r=>exact⟨.slice (some (tk.length+1)) k (x::r),[(x::r).length],λ_=>rfl,λm=>by simp[zY],λ_=>by simp[zZ],_,rfl⟩
 |cons y f=>
  refine⟨.slice (some (tk.length+1)) k (y::f),tk++[(y::f).length],?_⟩
  cases r with
  |nil=>exact⟨.slice (some (tk.length+1)) k (y::f),[(y::f).length],λ_=>by simp[zZ],λm=>by simp[zY],λ_=>rfl,some (tk.length+1),by rw[List.append_nil]⟩
  |cons x r=>exact⟨.slice (some (tk.length+1)) k (y::f++x::r),[(y::f++x::r).length],λ_=>by simp[zZ],λm=>by simp[zY],λ_=>by simp[zZ],some (tk.length+1),rfl⟩
def xZ (data:List Rows) (l:List I64):List (List (List Val)):=l.map λx=>match data[x.1.toNat]? with|some rs=>rs.items.map Sl.items|none=>[]
def yCe (data:List Rows) (l:List I64):Prop:=∀x∈l,∃i:Nat,x.1=(i:Int)/\i<data.length
structure yXk (data:List Rows):Prop where
 n:∀rs∈data,rs.items.length<=5
 w:∀rs∈data,∀r∈rs.items,r.items.length<=1000
 t:∀rs∈data,∀r∈rs.items,yBl r.items
theorem yXk.src {data:List Rows} (h:yXk data) (l:List I64):∀rs∈xZ data l,rs.length<=5/\∀r∈rs,r.length<=1000/\yBl r:=by
 intro rs hrs
 obtain⟨x,_,rfl⟩:=List.mem_map.1 hrs
 split
 ·rename_i rs' he
  have hm:=List.mem_of_getElem? he
  refine⟨by rw[List.length_map];exact h.n rs' hm,λr hr=>?_⟩
  obtain⟨r',hr',rfl⟩:=List.mem_map.1 hr
  exact⟨h.w rs' hm r' hr',h.t rs' hm r' hr'⟩
 ·exact⟨by simp,λr hr=>by cases hr⟩
theorem yGf (A:List (List Val)) (r:List Val) (S:List (List (List Val))) (f:List Val):zAq ((A++[r])::S) f=zAq (A::S) f++zAq S (f++r):=by
 show (A++[r]).flatMap _=A.flatMap _++_
 rw[List.flatMap_append];simp
theorem zPl :∀(S:List (List (List Val))) (f:List Val),(∀rs∈S,∀r∈rs,r.length<=1000/\yBl r)->yBl f->∀x∈zAq S f,x.length<=f.length+1000*S.length/\yBl x
 |[],f,_,hf,x,hx=>by
  rw[zAq,List.mem_singleton] at hx;subst hx;exact⟨by simp,hf⟩
 | rs::S,f,h,hf,x,hx=>by
  obtain⟨r,hr,hx⟩:=List.mem_flatMap.1 hx
  have h1:=h rs (by simp) r hr
  have h2:=zPl S (f++r) (λrs h'=>h rs (by simp[h'])) (λv hv=>by
   rcases List.mem_append.1 hv with hv|hv
   ·exact hf v hv
   ·exact h1.2 v hv) x hx
  refine⟨?_,h2.2⟩
  have h3:=h2.1
  rw[List.length_append] at h3
  rw[List.length_cons]
  omega
theorem yQt {s:Sl Rows} {i:Nat} {rs:Rows} (h:s.items[i]?=some rs):rs∈s.items:=List.mem_of_getElem? h
theorem xAw (b:Bnd) (data:Sl Rows) (ht:yCe data.items b.tabs.items) (hb:b.tabs.items.length<=3) (hf:yXk data.items):∀(n k:Nat) (d:D) (f:List Val),k+n=b.tabs.items.length->f.length<=1000*k->(d=rv f\/(d=.nil/\f=[]/\n≠0))->zA (XG G) TT 35 [yL b,qI data,d,.int .i64 (k:Int)]=some (.slice none 1 ((zAq ((xZ data.items b.tabs.items).drop k) f).map rv)):=by
 intro n
 induction n with
 |zero=>
  intro k d f hk hfl hd
  have hd:d=rv f:=hd.resolve_right (λh=>h.2.2 rfl)
  subst hd
  have hdr:(xZ data.items b.tabs.items).drop k=[]:=List.drop_eq_nil_of_le (by simp[xZ];omega)
  rw[hdr,zAq]
  have hlt:=b.tabs.lt
  have e1:((k:Int)==(b.tabs.items.length:Int))=true:=by simp;omega
  have hrv:rv f=.slice none 3 (f.map vD):=rfl
  have hst:∀(g:Nat->Nat->Nat->Nat->D) (x:List Val),zC g (x.map vD)=x.map vD:=λg x=>zL vD (λv=>yW v) x
  refine zD T35 rfl (by simp only[go_sem,zDi]) ?_
  unfold Tryz.f35 F35
  simp only[Option.getD_some,yL,hrv]
  simp +decide only[go_sem,ra]
  refine gw (an e1 hst) ?_
  simp +decide only[go_sem]
  simp only[hrv,hst]
 | succ n ih=>
  intro k d f hk hfl hd
  have hkl:k<b.tabs.items.length:=by omega
  obtain⟨x,g_x⟩:∃x,b.tabs.items[k]?=some x:=⟨_,List.getElem?_eq_getElem hkl⟩
  obtain⟨i,hxi,hi⟩:=ht x (List.mem_of_getElem? g_x)
  obtain⟨rs,g_rs⟩:∃rs,data.items[i]?=some rs:=⟨_,List.getElem?_eq_getElem hi⟩
  have hrs:=yQt g_rs
  have hS:(xZ data.items b.tabs.items).drop k=rs.items.map Sl.items::(xZ data.items b.tabs.items).drop (k+1):=by
   have hx':(xZ data.items b.tabs.items)[k]?=some (rs.items.map Sl.items):=by
    unfold xZ
    rw[List.getElem?_map,g_x]
    have hxn:x.1.toNat=i:=by omega
    simp only[Option.map_some,hxn,g_rs]
   rw[List.drop_eq_getElem_cons (List.getElem?_eq_some_iff.1 hx').1]
   rw[(List.getElem?_eq_some_iff.1 hx').2]
  have hSl:((xZ data.items b.tabs.items).drop (k+1)).length=n:=by simp[xZ];omega
  have hSm:=λrs h=>hf.src b.tabs.items rs (List.mem_of_mem_drop (i:=k+1) h)
  rw[hS]
  have ih:=ih (k+1)
  generalize (xZ data.items b.tabs.items).drop (k+1)=S at *
  have hlt:=b.tabs.lt
  have hltd:=data.lt
  have hltr:=rs.lt
  have e1:((k:Int)==(b.tabs.items.length:Int))=false:=by simp;omega
  have hst:∀(g:Nat->Nat->Nat->Nat->D) (x:List Val),zC g (x.map vD)=x.map vD:=λg x=>zL vD (λv=>yW v) x
  have hn3:n<=2:=by omega
  have hel:∀m,zY m 3 d=some (f.map vD):=λm=>by
   rcases hd with rfl|⟨rfl,rfl,_⟩
   ·simp[rv,zY]
   ·rfl
  have hsd:zF noR d=d:=by
   rcases hd with rfl|⟨rfl,_,_⟩
   ·exact zDi f
   ·rfl
  have hdo:d.isO=false/\d.okC=true/\d.cells=[d]:=by
   rcases hd with rfl|⟨rfl,_,_⟩<;>exact⟨rfl,rfl,rfl⟩
  obtain⟨hd1,hd2,hd3⟩:=hdo
  refine zD T35 rfl (by simp only[go_sem,hsd]) ?_
  unfold Tryz.f35 F35
  simp only[Option.getD_some,yL,qI]
  have w1:IntKind.i64.wrap ((k:Int)+1)=((k+1:Nat):Int):=yU k (by omega)
  have hsD:zF noR (sl 1 zDy data)=sl 1 zDy data:=qX data
  simp +decide only[go_sem,ra]
  refine gw (an9 e1 hxi w1 hd1 hd2 hd3 hel hsD (an g_x g_rs)) ?_
  refine lpC (T:=Nat×D×List Nat) [1,2,3,4,9,10,11] (λp=>[(11,.int .i64 (p.1:Int)),(9,p.2.1)]) (λ_=>[]) (λp=>⟨[],p.2.2⟩) (λp=>p.1<=rs.items.length/\GrD 1 p.2.2 p.2.1 ((zAq ((rs.items.take p.1).map Sl.items::S) f).map rv)) (λp=>rs.items.length-p.1) (0,.slice (some 0) 1 [],[]) (by exact⟨Nat.zero_le _,.inl rfl⟩) ?_
  rintro ⟨p,o,tk⟩ ⟨hp,hG⟩
  simp only at hp hG ⊢
  obtain⟨ho1,ho2,ho3⟩:=hG.no
  have hoe:=hG.els
  by_cases h:p<rs.items.length
  ·obtain⟨l_r,r,g_r,w_r⟩:=elm (L:=rs.items) (k:=p) (by assumption) (by omega)
   have hrm:=List.mem_of_getElem? g_r
   have hrl:=hf.w rs hrs r hrm
   have h5:=hf.n rs hrs
   obtain⟨d1,tk1,d2,tk2,a1,a2,a3,t,a4⟩:=ySr 3 tk (f.map vD) (r.items.map vD)
   have hs2:zF noR d2=rv (f++r.items):=by
    rw[a4,yY,<-List.map_append,hst];rfl
   have hd2o:d2.isO=false/\d2.okC=true/\d2.cells=[d2]:=by rw[a4];exact⟨rfl,rfl,rfl⟩
   obtain⟨h21,h22,h23⟩:=hd2o
   have hc:=ih (rv (f++r.items)) (f++r.items) (by omega) (by rw[List.length_append];omega) (.inl rfl)
   have hsn:=yGf ((rs.items.take p).map Sl.items) r.items S f
   have hst':(rs.items.take (p+1)).map Sl.items=(rs.items.take p).map Sl.items++[r.items]:=by rw[List.take_add_one,g_r];simp
   rw[<-hst'] at hsn
   have hl1:=zFn S (f++r.items) 5 λrs h=>(hSm rs h).1
   have hl2:=zFn ((rs.items.take p).map Sl.items::S) f 5 λrs' h'=>by
    rcases List.mem_cons.1 h' with rfl|h'
    ·rw[List.length_map,List.length_take];omega
    ·exact(hSm rs' h').1
   have hpw:∀j,j<=3->5 ^ j<=125:=λj hj=>Nat.pow_le_pow_right (by decide:0<5) hj
   have hl3:=hpw S.length (by omega)
   have hl4:=hpw ((rs.items.take p).map Sl.items::S).length (by rw[List.length_cons];omega)
   obtain⟨o',tk',b1,b2⟩:=hG.more (tk2:=tk2) |>.add ((zAq S (f++r.items)).map rv)
   rw[<-List.map_append,<-hsn] at b2
   simp only[yL,qI] at hc
   have hf1:(f.map vD).length=f.length:=List.length_map ..
   have hf2:(r.items.map vD).length=r.items.length:=List.length_map ..
   have hf3:((zAq ((rs.items.take p).map Sl.items::S) f).map rv).length=(zAq ((rs.items.take p).map Sl.items::S) f).length:=List.length_map ..
   have hf4:((zAq S (f++r.items)).map rv).length=(zAq S (f++r.items)).length:=List.length_map ..
   have z1:(0+f.length<=16777216)=True:=eq_true (by omega)
   have z1':(f.length<=16777216)=True:=eq_true (by omega)
   have z2:(f.length+r.items.length<=16777216)=True:=eq_true (by omega)
   have z3:((zAq ((rs.items.take p).map Sl.items::S) f).length+(zAq S (f++r.items)).length<=16777216)=True:=eq_true (by omega)
   have her:∀m,zY m 3 (sl 3 vD r)=some (r.items.map vD):=λm=>by
    unfold sl Sl.items;cases r.1<;>simp[zY]
   generalize zAq ((rs.items.take p).map Sl.items::S) f=L1 at *
   generalize zAq S (f++r.items)=L2 at *
   generalize rv (f++r.items)=dr at *
   repeat (first|(with_reducible first|refine q1 ?_|refine q2 ?_|refine q3 ?_|refine q4 ?_|refine q5 ?_|refine q6 ?_|refine q7 ?_|refine q8 ?_|refine q9 ?_|refine q10 ?_|refine q11 ?_|refine q12 (by decide) ?_)|((first|with_reducible refine q13 ?_|((with_reducible refine q14 ?_ ?_);focus exact rfl));intro K hK;simp +decide only[go_sem,ra,w1,hel,hsD,l_r,g_r,w_r,a1,a2,a3,hs2,hc,hoe,b1,hf1,hf2,hf3,hf4,z1',z2,z3,her];with_reducible refine hK _ ?_;clear hK K)|(with_reducible refine q15 ?_;intro K J hK hJ;simp +decide only[go_sem];(with_reducible first|refine hK ?_|refine hJ ?_);clear hK hJ K J))
   exact⟨(p+1,o',tk'),by simp +decide only[go_sem]<;>rfl,⟨h,b2⟩,by simp only;omega⟩
  ·have l_e:((p:Int)<((rs.items).length:Int))=False:=by simp;omega
   refine gw (an9 e1 hxi w1 hd1 hd2 hd3 hel hsD (an l_e ho1)) ?_
   simp +decide only[go_sem]
   rw[List.take_of_length_le (by omega)] at hG
   rw[hG.strip (uY _)]
theorem zKn (w:ExR):∃e:Ex,zM e=.agg [.int .i64 w.a.1,.str w.s,.str w.t,.int .i64 w.b.1,.int .i64 w.c.1,.int .i64 w.d.1,.str w.u,sl 8 zM w.args]/\tmE e=tmD w.enc:=by
 obtain⟨e,he⟩:=Ex.close w
 exact⟨e,he,by unfold tmE;rw[he]⟩
def xEd (l:List Int) (e:Tm):Prop:=e.op=0\/∃τ,(τ=0\/τ=3)/\WT l e τ
theorem yQs (b:Bnd) (data:Sl Rows) (l:List Int) (ht:yCe data.items b.tabs.items) (h0:b.tabs.items≠[]) (hb:b.tabs.items.length<=3) (hf:yXk data.items) (hw:xEd l (tmD b.w.enc)) (hr:∀r∈zAq (xZ data.items b.tabs.items) [],zIj l r) :
  zA (XG G) TT 15 [yL b,qI data]=some (wW 1 ((zMt ((zAq (xZ data.items b.tabs.items) []).filter (mtB (tmD b.w.enc)))).map rv)):=by
 have hc:=xAw (G:=G) b data ht hb hf b.tabs.items.length 0 .nil [] (by omega) (by simp) (.inr ⟨rfl,rfl,λe=>h0 (List.eq_nil_of_length_eq_zero e)⟩)
 have hm:=zPl (xZ data.items b.tabs.items) [] (λrs h=>(hf.src b.tabs.items rs h).2) (λv h=>by cases h)
 have hl:=zFn (xZ data.items b.tabs.items) [] 5 λrs h=>(hf.src b.tabs.items rs h).1
 have hsl:(xZ data.items b.tabs.items).length<=3:=by simp[xZ];omega
 have hpw:5 ^ (xZ data.items b.tabs.items).length<=125:=Nat.pow_le_pow_right (by decide:0<5) hsl
 rw[List.drop_zero,show ((0:Nat):Int)=0 from rfl] at hc
 generalize hS:xZ data.items b.tabs.items=S at *
 generalize hC:zAq S []=C at *
 obtain⟨e,he,het⟩:=zKn b.w
 rw[<-het] at hw ⊢
 have hst:∀(g:Nat->Nat->Nat->Nat->D) (x:List Val),zC g (x.map vD)=x.map vD:=λg x=>zL vD (λv=>yW v) x
 have hrv:∀x:List Val,rv x=.slice none 3 (x.map vD):=λ_=>rfl
 have hsb:=λg=>zAx (g:=g) b
 have hsD:zF noR (sl 1 zDy data)=sl 1 zDy data:=qX data
 have hma:∀(a:List (List Val)) (x:List Val),a.map rv++[.slice none 3 (x.map vD)]=(a++[x]).map rv:=λa x=>by rw[List.map_append];rfl
 refine zD T15 rfl (by simp only[go_sem]) ?_
 unfold Tryz.f15 F15
 simp only[Option.getD_some,yL,qI] at hc hsb ⊢
 have hCs:C.length<4611686018427387904:=by omega
 have hml:(C.map rv).length=C.length:=List.length_map ..
 have hmg:∀k:Nat,(C.map rv)[k]?=(C[k]?).map rv:=λk=>List.getElem?_map ..
 simp +decide only[go_sem,ra]
 refine gw (an8 hc hsb hsD hrv hst hma hml hmg) ?_
 refine lpC (T:=Nat×D×List Nat) [2,5,6,7] (λp=>[(7,.int .i64 (p.1:Int)),(5,p.2.1)]) (λ_=>[]) (λp=>⟨[],p.2.2⟩) (λp=>p.1<=C.length/\GrD 1 p.2.2 p.2.1 (((C.take p.1).filter (mtB (tmE e))).map rv)) (λp=>C.length-p.1) (0,.slice (some 0) 1 [],[]) (by exact⟨Nat.zero_le _,.inl rfl⟩) ?_
 rintro ⟨k,o,tk⟩ ⟨hk,hG⟩
 simp only at hk hG ⊢
 obtain⟨ho1,ho2,ho3⟩:=hG.no
 have hoe:=hG.els
 by_cases h:k<C.length
 ·obtain⟨l_r,r,g_r,w_r⟩:=elm (L:=C) (k:=k) (by assumption) (by omega)
  have hrm:=List.mem_of_getElem? g_r
  have hrl:=(hm r hrm).1
  simp at hrl
  have hmt:=yQv (G:=G) l (slV r (by omega)) (hr r hrm) e hw
  rw[he] at hmt
  simp only[yCg,zKt] at hmt
  have hfl:((C.take k).filter (mtB (tmE e))).length<=C.length:=Nat.le_trans (List.length_filter_le ..) (by rw[List.length_take];omega)
  have hfm:(((C.take k).filter (mtB (tmE e))).map rv).length=((C.take k).filter (mtB (tmE e))).length:=List.length_map ..
  have hsn:(C.take (k+1)).filter (mtB (tmE e))=(C.take k).filter (mtB (tmE e))++if mtB (tmE e) r then[r] else[]:=by
   rw[List.take_add_one,g_r,List.filter_append]
   simp only[Option.toList_some,List.filter_cons,List.filter_nil]
  obtain⟨o',tk',b1,b2⟩:=hG.add [rv r]
  have z3:(((C.take k).filter (mtB (tmE e))).length+1<=16777216)=True:=eq_true (by omega)
  generalize (C.take k).filter (mtB (tmE e))=L at *
  simp only[hrv] at b1
  have hom:(some r).map rv=some (.slice none 3 (r.map vD)):=rfl
  cases cm:(mtB (tmE e) r)
  ·rw[cm] at hsn
   refine gw (an9 hc hsb hsD hrv hst hma hml hmg (an9 l_r g_r w_r hmt ho1 ho2 ho3 hoe (an5 hfm z3 b1 hom cm))) ?_
   refine⟨(k+1,o,tk),by simp +decide only[go_sem]<;>rfl,⟨h,?_⟩,by simp only;omega⟩
   simp only[hsn,Bool.false_eq_true,if_false,List.append_nil]
   exact hG
  ·rw[cm] at hsn
   refine gw (an9 hc hsb hsD hrv hst hma hml hmg (an9 l_r g_r w_r hmt ho1 ho2 ho3 hoe (an5 hfm z3 b1 hom cm))) ?_
   refine⟨(k+1,o',tk'),by simp +decide only[go_sem]<;>rfl,⟨h,?_⟩,by simp only;omega⟩
   simp only[hsn,if_true,List.map_append]
   exact b2
 ·have l_r:((k:Int)<((C).length:Int))=False:=by simp;omega
  rw[List.take_of_length_le (by omega)] at hG
  have hfl:(C.filter (mtB (tmE e))).length<=C.length:=List.length_filter_le ..
  have hs:=hG.strip (g:=noR) (uY _)
  have hof:=xUt (G:=G) ⟨some (C.filter (mtB (tmE e))),by show (C.filter _).length<_;omega⟩ (λx hx=>by
   have hx:x∈C.filter (mtB (tmE e)):=hx
   have:=hm x (List.mem_filter.1 hx).1
   simp at this
   exact⟨by omega,this.2⟩) (by show (C.filter _).length<=_;omega)
  have hof:zA (XG G) TT 13 [.slice none 1 ((C.filter (mtB (tmE e))).map rv)]=some (wW 1 ((zMt (C.filter (mtB (tmE e)))).map rv)):=hof
  have hso:∀g,zF g (wW 1 ((zMt (C.filter (mtB (tmE e)))).map rv))=wW 1 ((zMt (C.filter (mtB (tmE e)))).map rv):=λg=>zFq (uY _)
  have hoo:(wW 1 ((zMt (C.filter (mtB (tmE e)))).map rv)).isO=false:=by cases (zMt (C.filter (mtB (tmE e))))<;>rfl
  generalize wW 1 ((zMt (C.filter (mtB (tmE e)))).map rv)=dd at *
  refine gw (an9 hc hsb hsD hrv hst hma hml hmg (an5 l_r hs hof ho1 hoo)) ?_
  simp +decide only[go_sem]
  rw[hso]
end Go.Eng
namespace Go.Eng
open Go Go.Proofs
def qH (data:List (List (Sl Val))) (l:List I64):List (List (Sl Val)):=l.map λx=>(data[x.1.toNat]?).getD []
def zMs (rs:List (Sl Val)):Nat:=match rs with|r::_=>r.items.length|[]=>0
theorem yIk (data:List (List (Sl Val))) (l:List I64):zMk data l=(qH data l).map zMs:=by
 unfold zMk qH
 rw[List.map_map]
 refine List.map_congr_left λx _=>?_
 show _=zMs ((data[x.1.toNat]?).getD [])
 cases data[x.1.toNat]? with
 |none=>rfl
 |some rs=>cases rs<;>rfl
theorem yNl :∀(W:List Nat) (n k:Nat),k<W.length->(zMu W n)[k]?=some (.int .i64 ((n+(W.take k).sum:Nat):Int))
 |[],_,_,h=>absurd h (Nat.not_lt_zero _)
 |w::r,n,0,_=>by simp[zMu]
 |w::r,n,k+1,h=>by
  show (zMu r (n+w))[k]?=_
  rw[yNl r (n+w) k (by simpa using h)]
  simp[Nat.add_assoc]
theorem yMx :∀(W:List Nat) (k w:Nat),W[k]?=some w->(W.take (k+1)).sum=(W.take k).sum+w/\(W.take k).sum+w<=W.sum
 |[],_,_,h=>by simp at h
 |a::r,0,w,h=>by simp at h;subst h;simp
 |a::r,k+1,w,h=>by
  have:=yMx r k w (by simpa using h)
  simp only[List.take_succ_cons,List.sum_cons]
  omega
def uH (L:List (Int×List Val)) (off:Nat) (rs:List (Sl Val)):List (Int×List Val):=L.flatMap λp=>zQg p.2 off rs rs.length
def yMm :List (List (Sl Val))->Nat->List (Int×List Val)->List (Int×List Val)
 |[],_,l=>l
 |rs::t,off,l=>yMm t (off+zMs rs) (uH l off rs)
theorem zYr (c:List Val) (off:Nat) (rs:List (Sl Val)):∀k,(zQg c off rs k).map Prod.snd=(rs.take k).map λr=>yPa c off r.items
 |0=>rfl
 |k+1=>by
  rw[zQg,List.map_append,zYr c off rs k,List.take_add_one,List.map_append]
  congr 1
  cases rs[k]?<;>rfl
theorem zQz (L:List (Int×List Val)) (off:Nat) (rs:List (Sl Val)):(uH L off rs).map Prod.snd=(L.map Prod.snd).flatMap λc=>(rs.map Sl.items).map λr=>yPa c off r:=by
 unfold uH
 rw[List.map_flatMap,List.flatMap_map]
 congr 1
 funext p
 rw[zYr,List.take_of_length_le (Nat.le_refl _),List.map_map]
 rfl
theorem yCd (rs:List (Sl Val)):yGw (rs.map Sl.items)=zMs rs:=by cases rs<;>rfl
theorem zXl :∀(S:List (List (Sl Val))) (off:Nat) (L:List (Int×List Val)),(yMm S off L).map Prod.snd=lev (S.map λrs=>rs.map Sl.items) off (L.map Prod.snd)
 |[],_,_=>rfl
 |rs::t,off,L=>by
  show (yMm t (off+zMs rs) (uH L off rs)).map Prod.snd=lev (t.map _) (off+yGw (rs.map Sl.items)) _
  rw[zXl t,zQz,yCd]
theorem yJr (c:List Val) (off:Nat) (r:List Val) (h:off+r.length<=c.length):(yPa c off r).length=c.length:=zXe c off r h
theorem yEr {L:List (Int×List Val)} {off n:Nat} {rs:List (Sl Val)} (hL:∀p∈L,p.2.length=n) (hr:∀r∈rs,off+r.items.length<=n):∀p∈uH L off rs,p.2.length=n:=by
 intro p hp
 have:p.2∈(uH L off rs).map Prod.snd:=List.mem_map.2 ⟨p,hp,rfl⟩
 rw[zQz] at this
 obtain⟨c,hc,hx⟩:=List.mem_flatMap.1 this
 obtain⟨r,hr',e⟩:=List.mem_map.1 hx
 obtain⟨r',hr'',rfl⟩:=List.mem_map.1 hr'
 obtain⟨q,hq,rfl⟩:=List.mem_map.1 hc
 have h1:=hL q hq
 have h2:=hr r' hr''
 rw[<-e,yJr _ _ _ (by omega)];exact h1
theorem zRa (L:List (Int×List Val)) (off:Nat) (rs:List (Sl Val)):(uH L off rs).length=L.length*rs.length:=by
 unfold uH
 induction L with
 |nil=>simp
 |cons p L ih=>rw[List.flatMap_cons,List.length_append,ih,zJd _ _ _ _ (Nat.le_refl _),List.length_cons,Nat.succ_mul];omega
theorem zZq {L:List (Int×List Val)} {off i:Nat} {rs:List (Sl Val)} {p:Int×List Val} (h:L[i]?=some p):uH (L.take (i+1)) off rs=uH (L.take i) off rs++zQg p.2 off rs rs.length:=by
 unfold uH
 rw[List.take_add_one,h,List.flatMap_append]
 simp
theorem yLx (k tok:Nat) (tk:List Nat) (L xs:List D) (hx:xs≠[]) (h:L≠[]->tk[tok]?=some L.length):∃tok' tk',(∀bx,zZ k ⟨bx,tk⟩ (vdK k tok L) xs=some (vdK k tok' (L++xs),⟨bx,tk'⟩))/\tk'[tok']?=some (L++xs).length:=by
 obtain⟨x,r,rfl⟩:=List.exists_cons_of_ne_nil hx
 cases L with
 |nil=>exact⟨tk.length,tk++[(x::r).length],λbx=>rfl,by simp⟩
 |cons a l=>
  have h:=h (by simp)
  refine⟨tok,tk.set tok (a::l++x::r).length,λbx=>?_,?_⟩
  ·simp[vdK,zZ,h]
  ·rw[List.getElem?_set_self (List.getElem?_eq_some_iff.1 h).1]
theorem yRo {m:Mem} {d:D} {l:List (Int×List Val)} (h:zQi m d l):zY m 2 d=some (l.map qE):=by
 rcases h with⟨rfl,rfl⟩|⟨_,id,rfl,hb⟩
 ·rfl
 ·have hbc:uN m id=some (zV (l.map qE)):=wQ hb (zSd l)
  show (bif decide (2=2) then qG m id 0 l.length 2 else none)=_
  show qG m id 0 l.length 2=_
  unfold qG
  rw[hbc]
  simp only[Nat.zero_add,zLc,Nat.le_refl,decide_true,cond_true,List.drop_zero]
  rw[wT zTw yNc]
def yYf (m:Mem) (d:D) (L:List (List Val)):Prop:=(L=[]/\d=.nil)\/(L≠[]/\∃id,d=.rsl id 0 L.length 1/\m.boxes[id]?=some (L.map λr=>.slice none 3 (r.map vD)))
end Go.Eng
