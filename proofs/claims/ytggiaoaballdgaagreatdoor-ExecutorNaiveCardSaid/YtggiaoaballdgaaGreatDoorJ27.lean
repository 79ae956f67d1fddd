/- A part of the proof: see the last text. -/
import Derived.Test.YtggiaoaballdgaaGreatDoorJ21
import Derived.Test.YtggiaoaballdgaaGreatDoorJ26
set_option linter.unusedSimpArgs false
set_option linter.unusedVariables false
namespace Go.Eng
open Go Go.Proofs
theorem zAm {m:Mem} {n id off:Nat} {cs:List D} (h:m.boxes[id]?=some cs) (ho:wB cs=false):vM m (n+1) id off 0 0=.ref (zC (vM m n) cs) off:=by
 simp only[vM,wQ h ho]
def zQd (r:Sl Val):D:=.slice none 3 (r.items.map vD)
def zYz (rs:List (Sl Val)):D:=.ref [wW 1 ((zJe rs.length).map (D.int .i64)),wW 1 (rs.map zQd),.nil] 0
def zAr (rs:List (Sl Val)) (c:Int):D:=.ref [zYz rs,.int .i64 16,.int .i64 c] 0
def zBf (a:Int) (rs:List (Sl Val)) (c b:Int) (x:D):D:=.ref [.int .i64 a,zAr rs c,.int .i64 b,x] 0
theorem zKo (g:Nat->Nat->Nat->Nat->D) (k tok:Nat) (l:List D):zF g (vdK k tok l)=wW k (zC g l):=by
 cases l<;>rfl
theorem yEm (g:Nat->Nat->Nat->Nat->D) (tok:Nat) (l:List D):zF g (vdR tok l)=wW 1 (zC g l):=by
 cases l<;>rfl
theorem yKm {m:Mem} {d:D} {l:List Int} {n:Nat} (h:qR m d (l.map (D.int .i64))) (hn':l≠[]->1<=n):zF (vM m n) d=wW 1 (l.map (D.int .i64)):=by
 rcases h.inv with⟨rfl,hn⟩|⟨id,rfl,hb,hn,ho⟩
 ·rw[hn];rfl
 ·obtain⟨n,rfl⟩:∃n',n=n'+1:=⟨n-1,by have:=hn' (by intro e;rw[e] at hn;exact hn rfl);omega⟩
  rw[zDu,zDq (wQ hb ho) (by decide)]
  simp only[Nat.zero_add,Nat.mul_one,Nat.le_refl,decide_true,cond_true,List.drop_zero]
  have hs:zC (vM m n) (l.map (D.int .i64))=l.map (D.int .i64):=zL (D.int .i64) (λ_=>rfl) l
  have hc:=wT (k:=1) (f:=D.int .i64) (λ_=>rfl) (λ_=>rfl) l
  rw[zJa λx=>yGi .i64 x] at hc
  rw[hs,List.length_map,hc]
  cases l with
  |nil=>exact absurd rfl hn
  |cons a r=>rfl
theorem yKl {g:Nat->Nat->Nat->Nat->D} {rows:List D} {rs:List (Sl Val)} (h:zNc rows rs):zC g rows=rs.map zQd:=by
 rw[uR]
 apply List.ext_getElem?
 intro i
 rw[List.getElem?_map,List.getElem?_map]
 cases hr:rs[i]? with
 |none=>
  rw[List.getElem?_eq_none (by rw[h.1];exact List.getElem?_eq_none_iff.1 hr)];rfl
 |some r=>
  obtain⟨_,rt,h2⟩:=h.2 i r hr
  rw[h2]
  show some (D.slice none 3 (zC g (r.items.map vD)))=some (zQd r)
  rw[zL vD (λv=>yW v)];rfl
theorem yRl {m:Mem} {S:xV} {rs:List (Sl Val)} (h:wG m S) (hr:zNc S.rows rs) (n:Nat) (hn0:rs≠[]->1<=n):∃(a c b:Int) (x:D),vM m (n+3) S.s 0 0 0=zBf a rs c b x/\∀g,zF g x=x:=by
 obtain⟨nx,hs⟩:=h.hs
 obtain⟨c,ht⟩:=h.tr.ht
 have hn:=h.tr.hr
 have hk:=h.tr.hk
 rw[hr.1] at hk
 refine⟨S.cols,c,nx,zF (vM m (n+2)) (vdK 2 S.itok (S.ix.map ixE)),?_,λg=>zXu g m _ _⟩
 rw[zAm hs rfl]
 simp only[zR,yF,zBe]
 rw[zAm ht rfl]
 simp only[zR,yF,zBe]
 rw[zAm hn (by rfl)]
 simp only[zR,yF,zZo]
 rw[h.tr.hv,yEm,yKl hr,yKm hk (λe=>hn0 (by intro e2;rw[e2] at e;exact e rfl))]
 rfl
theorem yFr {m:Mem} {Z:StS} (h:zMn m Z) {data:List (List (Sl Val))} (hl:Z.tabs.length=data.length) (hd:∀(i:Nat) (rs:List (Sl Val)),data[i]?=some rs->∃S,Z.tabs[i]?=some S/\zNc S.rows rs) :
  ∃(x:D) (tabs:List D),frz m (.ptr Z.st 0)=.ref [x,wW 1 tabs] 0/\tabs.length=data.length/\∀(i:Nat) (rs:List (Sl Val)),data[i]?=some rs->∃(a c b:Int) (y:D),tabs[i]?=some (zBf a rs c b y)/\∀g,zF g y=y:=by
 have hst:=(List.getElem?_eq_some_iff.1 h.hs).1
 have hobj:wB [sl 5 zQ Z.schema,vdK 1 Z.ttok (Z.tabs.map zDe)]=false:=rfl
 by_cases hZ:Z.tabs=[]
 ·obtain⟨N,hN⟩:∃N,m.boxes.length=N+1:=⟨m.boxes.length-1,by omega⟩
  refine⟨zF (vM m N) (sl 5 zQ Z.schema),[],?_,by rw[<-hl,hZ];rfl,λi rs hi=>?_⟩
  ·rw[zUd,hN,zBe,zAm h.hs hobj,hZ];rfl
  ·obtain⟨S,hS,_⟩:=hd i rs hi
   rw[hZ] at hS;simp at hS
 ·have hnd:=h.nd
  have hlt:=h.lt
  have hz:=hnd
  simp only[StS.ids,List.nodup_cons] at hz
  have hfour:∀S∈Z.tabs,4<=m.boxes.length/\(S.rows≠[]->5<=m.boxes.length):=by
   intro S hS
   have hin:∀id∈S.ids,id∈zAb Z.tabs:=λid hid=>List.mem_flatMap.2 ⟨S,hS,hid⟩
   have hne:∀id∈S.ids,Z.st≠id:=λid hid e=>hz.1 (e▸hin id hid)
   have hb:∀id∈S.ids,id<m.boxes.length:=λid hid=>hlt id (List.mem_cons_of_mem _ (hin id hid))
   have hSn:=(h.at_ S hS).nd
   have m1:S.s∈S.ids:=by simp[xV.ids]
   have m2:S.T.t∈S.ids:=by simp[xV.ids,TrL.ids]
   have m3:S.T.r∈S.ids:=by simp[xV.ids,TrL.ids]
   have a1:=hne _ m1
   have a2:=hne _ m2
   have a3:=hne _ m3
   have b1:=hb _ m1
   have b2:=hb _ m2
   have b3:=hb _ m3
   have c1:S.s≠S.T.t/\S.s≠S.T.r/\S.T.t≠S.T.r:=by
    simp only[xV.ids,TrL.ids,List.cons_append,List.nodup_cons,List.mem_cons,not_or] at hSn
    exact⟨hSn.1.1,hSn.1.2.1,hSn.2.1.1⟩
   refine⟨by omega,λhr=>?_⟩
   have hk:=(h.at_ S hS).tr.hk
   rcases hk.inv with⟨_,hn⟩|⟨id,hid,_⟩
   ·have:=congrArg List.length hn
    rw[List.length_map,vL] at this
    exact absurd (List.eq_nil_of_length_eq_zero this) hr
   ·have m4:id∈S.ids:=by simp[xV.ids,TrL.ids,hid,uU]
    have a4:=hne _ m4
    have b4:=hb _ m4
    have c2:S.s≠id/\S.T.t≠id/\S.T.r≠id:=by
     simp only[xV.ids,TrL.ids,hid,uU,List.cons_append,List.nil_append,List.nodup_cons,List.mem_cons,not_or] at hSn
     exact⟨hSn.1.2.2.1,hSn.2.1.2.1,hSn.2.2.1.1⟩
    omega
  obtain⟨S0,hS0⟩:=List.exists_mem_of_ne_nil _ hZ
  have h4:=(hfour S0 hS0).1
  obtain⟨N,hN⟩:∃N,m.boxes.length=N+4:=⟨m.boxes.length-4,by omega⟩
  obtain⟨tabs,t1,t2⟩:=zKw (P:=λi (S:xV) (d:D)=>zF (vM m (N+3)) (zDe S)=d/\∀rs,data[i]?=some rs->∃(a c b:Int) (y:D),d=zBf a rs c b y/\∀g,zF g y=y) Z.tabs λi S hS=>by
   refine⟨_,rfl,λrs hrs=>?_⟩
   obtain⟨S',hS',hrw⟩:=hd i rs hrs
   rw[hS] at hS'
   cases hS'
   have hmem:=List.mem_of_getElem? hS
   exact yRl (h.at_ S hmem) hrw N λe=>by
    have:=(hfour S hmem).2 (by intro e2;have:=hrw.1;rw[e2] at this;exact e (List.eq_nil_of_length_eq_zero this.symm))
    omega
  refine⟨zF (vM m (N+3)) (sl 5 zQ Z.schema),tabs,?_,by rw[t1,hl],λi rs hrs=>?_⟩
  ·rw[zUd,hN,zBe,zAm h.hs hobj]
   simp only[zR,yF]
   rw[zKo]
   have:zC (vM m (N+3)) (Z.tabs.map zDe)=tabs:=by
    rw[uR]
    apply List.ext_getElem?
    intro i
    rw[List.getElem?_map,List.getElem?_map]
    cases hS:Z.tabs[i]? with
    |none=>
     rw[List.getElem?_eq_none (by rw[t1];exact List.getElem?_eq_none_iff.1 hS)];rfl
    |some S=>
     have hi:=(List.getElem?_eq_some_iff.1 hS).1
     have hx:tabs[i]?=some tabs[i]:=List.getElem?_eq_getElem (by omega)
     rw[hx]
     exact congrArg some (t2 i S _ hS hx).1
   rw[this]
  ·obtain⟨S,hS,_⟩:=hd i rs hrs
   have hi:=(List.getElem?_eq_some_iff.1 hS).1
   have hx:tabs[i]?=some tabs[i]:=List.getElem?_eq_getElem (by omega)
   obtain⟨a,c,b,y,e,hy⟩:=(t2 i S _ hS hx).2 rs hrs
   exact⟨a,c,b,y,by rw[hx,e],hy⟩
end Go.Eng
namespace Go.Eng
open Go Go.Proofs
open Nat renaming reduceAdd → ra, reduceMul → rb, reduceSub → rc
set_option maxRecDepth 20000
set_option maxHeartbeats 32000000
attribute [local irreducible] wpI xU
variable {G:Nat->Option (List D)}
theorem zKz (P:Program) (u k:Nat) (l:List D):lenT P u (wW k l)=match zI P u with|some _=>some l.length|none=>none:=by
 cases l with
 |nil=>exact zDl P u
 |cons a r=>exact qN P u _ _ _
theorem zFy (P:Program) (t k:Nat) (l:List D) (kk:IntKind) (n:Int):zQf P t (wW k l) (.int kk n)=match zN P t with
  |some k'=>bif decide (k'=k) then(match atI l n with
   |some a=>some (.ref a.cells 0)
   |none=>none) else none
  |none=>none:=by
 cases l with
 |nil=>
  show none=_
  cases zN P t with
  |none=>rfl
  |some k'=>cases n<;>simp[atI]
 |cons a r=>
  show zQf P t (.slice _ k (a::r)) (.int kk n)=_
  rw[qO]
  cases zN P t<;>rfl
theorem zWr :∀(n i:Nat),i<n->(zJe n)[i]?=some ((i+1:Nat):Int)
 |0,i,h=>by omega
 | n+1,i,h=>by
  rw[zJe]
  by_cases e:i<n
  ·rw[List.getElem?_append_left (by rw[vL];exact e)];exact zWr n i e
  ·obtain rfl:i=n:=by omega
   rw[List.getElem?_append_right (by rw[vL];exact Nat.le_refl _),vL,Nat.sub_self];rfl
def zEh :List (Sl Val)->Nat->List D
 |_,0=>[]
 |rs,k+1=>zEh rs k++(match rs[k]? with|some r=>[.agg [.int .i64 ((k+1:Nat):Int),zQd r]]|none=>[])
theorem zFz {rs:List (Sl Val)} {k:Nat} {r:Sl Val} (h:rs[k]?=some r):zEh rs (k+1)=zEh rs k++[.agg [.int .i64 ((k+1:Nat):Int),zQd r]]:=by
 rw[zEh,h]
theorem zAg :∀(rs:List (Sl Val)) (k:Nat),k<=rs.length->(zEh rs k).length=k
 |_,0,_=>rfl
 |rs,k+1,h=>by
  rw[zFz (List.getElem?_eq_getElem (by omega:k<rs.length)),List.length_append,zAg rs k (by omega)];rfl
theorem zPi :∀(rs:List (Sl Val)) (k i:Nat) (r:Sl Val),k<=rs.length->i<k->rs[i]?=some r->(zEh rs k)[i]?=some (.agg [.int .i64 ((i+1:Nat):Int),zQd r])
 |rs,0,i,r,_,h,_=>by omega
 | rs,k+1,i,r,hk,h,hr=>by
  have hl:=zAg rs k (by omega)
  rw[zFz (List.getElem?_eq_getElem (by omega:k<rs.length))]
  by_cases e:i<k
  ·rw[List.getElem?_append_left (by omega)];exact zPi rs k i r (by omega) e hr
  ·obtain rfl:i=k:=by omega
   rw[List.getElem?_append_right (by omega),hl,Nat.sub_self]
   have:=List.getElem?_eq_getElem (by omega:i<rs.length)
   rw[hr] at this
   cases this
   rfl
theorem yKa (m:Mem) (a b:D):zG (XG G) TT 146 m [.ref [a,b,.nil] 0]=some (.bool true,m):=by
 refine yB T146 rfl ?_
 unfold Tryz.f146 xEs
 simp only[Option.getD_some]
 simp +decide only[go_sem]
 refine gw trivial ?_
 simp +decide only[go_sem]
 try exact⟨rfl,trivial⟩
theorem ySc (m:Mem) (rs:List (Sl Val)) (hl:rs.length<=1000):∃tok tk,zG (XG G) TT 249 m [zYz rs,.nil,.nilptr,.nilptr]=some (vdK 2 tok (zEh rs rs.length),⟨m.boxes,tk⟩)/\Fr [] [] [] (tkR tok (zEh rs rs.length)) m ⟨m.boxes,tk⟩:=by
 suffices hh:∃d m',zG (XG G) TT 249 m [zYz rs,.nil,.nilptr,.nilptr]=some (d,m')/\∃tok tk,d=vdK 2 tok (zEh rs rs.length)/\m'=⟨m.boxes,tk⟩/\Fr [] [] [] (tkR tok (zEh rs rs.length)) m ⟨m.boxes,tk⟩ by
  obtain⟨d,m',h1,tok,tk,rfl,rfl,h2⟩:=hh;exact⟨tok,tk,h1,h2⟩
 have hlf:=yKa (G:=G)
 have hln:=zKz
 have hix:=zFy
 have hul:=vL rs.length
 have hml:((zJe rs.length).map (D.int .i64)).length=rs.length:=by rw[List.length_map,hul]
 refine zO T249 rfl ?_
 unfold Tryz.f249 xIl
 simp only[Option.getD_some,zYz]
 simp +decide only[go_sem,ra]
 refine gw (an4 hlf hln hix hml) ?_
 refine lpC (T:=Nat×Nat×List Nat) [0,1,2,3,9] (λp=>[(9,.int .i64 (p.1:Int)),(1,vdK 2 p.2.1 (zEh rs p.1))]) (λ_=>[]) (λp=>⟨m.boxes,p.2.2⟩) (λp=>p.1<=rs.length/\(zEh rs p.1≠[]->p.2.2[p.2.1]?=some (zEh rs p.1).length)/\Fr [] [] [] (tkR p.2.1 (zEh rs p.1)) m ⟨m.boxes,p.2.2⟩) (λp=>rs.length-p.1) (0,0,m.toks) (by exact⟨Nat.zero_le _,λh=>absurd rfl h,Fr.refl _ _ _⟩) ?_
 rintro ⟨k,tok,tk⟩ ⟨hk,htk,hF⟩
 simp only at hk htk hF ⊢
 have l1:((k:Int)<=(rs.length:Int))=True:=eq_true (by omega)
 by_cases h:k<rs.length
 ·have l2:((k:Int)==(rs.length:Int))=false:=by rw[beq_eq_false_iff_ne];omega
  obtain⟨r,hr⟩:∃r,rs[k]?=some r:=⟨_,List.getElem?_eq_getElem h⟩
  have hx:((zJe rs.length).map (D.int .i64))[k]?=some (.int .i64 ((k+1:Nat):Int)):=by rw[List.getElem?_map,zWr _ _ h];rfl
  have hy:(rs.map zQd)[k]?=some (.slice none 3 (r.items.map vD)):=by rw[List.getElem?_map,hr];rfl
  obtain⟨tok',tk',ha,htk',hfa⟩:=yCs 2 tok ⟨m.boxes,tk⟩ (zEh rs k) (.agg [.int .i64 ((k+1:Nat):Int),.slice none 3 (r.items.map vD)]) htk
  have z1:=λm=>qW m 2 tok (zEh rs k)
  have z2:=zAg rs k hk
  have z3:(k+1<=16777216)=True:=eq_true (by omega)
  have w1:=yU k (by omega)
  have hst:zEh rs k++[.agg [.int .i64 ((k+1:Nat):Int),.slice none 3 (r.items.map vD)]]=zEh rs (k+1):=(zFz hr).symm
  have hlen1:=zAg rs (k+1) h
  rw[hst] at ha
  refine gw (an9 hlf hln hix hml l1 l2 hx hy (an5 ha z1 z2 z3 w1)) ?_
  refine⟨(k+1,tok',tk'),by simp +decide only[go_sem]<;>rfl,⟨h,λ_=>by show tk'[tok']?=_;rw[htk',z2,hlen1],?_⟩,by simp only;omega⟩
  have hft:tkR tok' (zEh rs (k+1))=[tok']:=by rw[<-hst,tkR_app]
  show Fr [] [] [] (tkR tok' (zEh rs (k+1))) m ⟨m.boxes,tk'⟩
  rw[hft]
  exact hF.trans hfa
 ·have l2:((k:Int)==(rs.length:Int))=true:=by rw[beq_iff_eq];omega
  refine gw (an6 hlf hln hix hml l1 l2) ?_
  simp +decide only[go_sem]
  obtain rfl:k=rs.length:=by omega
  exact⟨tok,tk,rfl,by trivial,hF⟩
@[go_sem] theorem xRa (k tok:Nat) (l:List D):(vdK k tok l).isO=false:=by cases l<;>rfl
theorem xOz (y:Nat) (P:Nat->Mem->Prop) (rs:List (Sl Val)) (c:Int) (hl:rs.length<=1000)
  (hP:∀(m:Mem) (tk T:List Nat),P 0 m->Fr [] [] [] T m ⟨m.boxes,tk⟩->P 0 ⟨m.boxes,tk⟩)
  (hS:∀(k:Nat) (r:Sl Val) (m:Mem),rs[k]?=some r->P k m->∃m',zG (XG G) TT (qQ+y) m [.int .i64 ((k+1:Nat):Int),zQd r]=some (.bool true,m')/\P (k+1) m')
  (m:Mem) (h0:P 0 m):∃d m',zG (XG G) TT 248 m [.yld y,.ref [zAr rs c] 0,.ref [.nilptr] 0,.ref [.nilptr] 0]=some (d,m')/\P rs.length m':=by
 obtain⟨tok,tk,hc,hF⟩:=ySc (G:=G) m rs hl
 have hP1:=hP m tk _ h0 hF
 unfold zAr at *
 unfold zYz at hc ⊢
 have hln:=zIx
 have hix:=zDn
 have hel:=zAg rs rs.length (Nat.le_refl _)
 have y1:∀Q P:Prop,((Q\/Sub m ⟨m.boxes,tk⟩)/\P)=P:=zAn (zDh λ_ _=>rfl)
 refine zO T248 rfl ?_
 unfold Tryz.f248 xIm
 simp only[Option.getD_some]
 simp +decide only[go_sem,ra]
 refine gw (an5 hc hln hix hel y1) ?_
 refine lpC (T:=Nat×Mem) [0,13,14,15] (λp=>[(15,.int .i64 (p.1:Int))]) (λ_=>[]) (λp=>p.2) (λp=>p.1<=rs.length/\P p.1 p.2) (λp=>rs.length-p.1) (0,⟨m.boxes,tk⟩) (by exact⟨Nat.zero_le _,hP1⟩) ?_
 rintro ⟨k,m1⟩ ⟨hk,hI⟩
 simp only at hk hI ⊢
 by_cases h:k<rs.length
 ·obtain⟨l_r,r,g_r,w_r⟩:=elm (L:=rs) (k:=k) (by assumption) (by omega)
  have hx:=zPi rs rs.length k r (Nat.le_refl _) h g_r
  obtain⟨m2,hy,hI2⟩:=hS k r m1 g_r hI
  unfold zQd at hx hy
  refine gw (an9 hc hln hix hel y1 l_r g_r w_r (an hx hy)) ?_
  exact⟨(k+1,m2),by simp +decide only[go_sem]<;>rfl,⟨h,hI2⟩,by simp only;omega⟩
 ·have l_r:((k:Int)<((rs).length:Int))=False:=by simp;omega
  refine gw (an6 hc hln hix hel y1 l_r) ?_
  simp +decide only[go_sem]
  obtain rfl:k=rs.length:=by omega
  exact hI
theorem zHa (g:Nat->Nat->Nat->Nat->D) (r:Sl Val):zF g (zQd r)=zQd r:=by
 unfold zQd
 rw[yY,zL vD λv=>yW v]
theorem zDt (g:Nat->Nat->Nat->Nat->D) (k:Nat) (l:List D) (h:zC g l=l):zF g (wW k l)=wW k l:=by
 cases l with
 |nil=>rfl
 |cons a r=>unfold wW;rw[yY,h]
theorem zBo (g:Nat->Nat->Nat->Nat->D) (rs:List (Sl Val)) (c:Int):zF g (zAr rs c)=zAr rs c:=by
 unfold zAr zYz
 simp only[zBd,zR,yF]
 rw[zDt _ _ _ (zL (D.int .i64) (λ_=>rfl) _),zDt _ _ _ (zL zQd (λr=>zHa g r) _)]
 rfl
theorem qL (g:Nat->Nat->Nat->Nat->D) (a:Int) (rs:List (Sl Val)) (c b:Int) (x:D):zF g (zBf a rs c b x)=zBf a rs c b (zF g x):=by
 unfold zBf
 simp only[zBd,zR,yF,zBo]
 rfl
theorem xBb (rs:List (Sl Val)) (c:Int):zA (XG G) TT 177 [zAr rs c,.nilptr,.nilptr]=some (.func 248 [.ref [zAr rs c] 0,.ref [.nilptr] 0,.ref [.nilptr] 0]):=by
 have hs:=λg=>zBo g rs c
 have hok:(zAr rs c).okC=true:=rfl
 have hce:(zAr rs c).cells=[zAr rs c]:=rfl
 have hio:(zAr rs c).isO=false:=rfl
 generalize zAr rs c=d at *
 refine zD T177 rfl (by simp only[zH,zR,yF,hs];rfl) ?_
 unfold Tryz.f177 xJk
 simp only[Option.getD_some]
 simp +decide only[go_sem,ra]
 refine gw (an4 hok hce hio hs) ?_
 simp +decide only[go_sem,ra]
 have h0:vM ⟨[[d],[D.nilptr],[D.nilptr]],[]⟩ (2+1) 0 0 0 0=.ref [d] 0:=by
  rw[zAm (cs:=[d]) rfl hio];simp only[zR,yF,hs]
 have h1:vM ⟨[[d],[D.nilptr],[D.nilptr]],[]⟩ (2+1) 1 0 0 0=.ref [.nilptr] 0:=by
  rw[zAm (cs:=[.nilptr]) rfl rfl];rfl
 have h2:vM ⟨[[d],[D.nilptr],[D.nilptr]],[]⟩ (2+1) 2 0 0 0=.ref [.nilptr] 0:=by
  rw[zAm (cs:=[.nilptr]) rfl rfl];rfl
 exact congr (congrArg D.func rfl) (by rw[h0,h1,h2])
theorem xBf (rs:List (Sl Val)) (c:Int):zA (XG G) TT 124 [zAr rs c]=some (.func 248 [.ref [zAr rs c] 0,.ref [.nilptr] 0,.ref [.nilptr] 0]):=by
 have hs:=λg=>zBo g rs c
 have hb:=xBb (G:=G) rs c
 generalize zAr rs c=d at *
 refine zD T124 rfl (by simp only[zH,zR,yF,hs]) ?_
 unfold Tryz.f124 xKs
 simp only[Option.getD_some]
 have hsn:zF noR .nilptr=.nilptr:=rfl
 simp +decide only[go_sem]
 refine gw (an3 hb hs hsn) ?_
 simp +decide only[go_sem,hs]
 try simp only[zLn,zR,yF,zBd,hs]
 try rfl
def zMz (rs:List (Sl Val)):List D:=zEh rs rs.length
theorem yYm (d:D) (hd:zF noR d=d):zA (XG G) TT 76 [d]=some (.bool true):=by
 refine zD T76 rfl (by simp only[zH,zR,yF,hd]) ?_
 unfold Tryz.f76 F76
 simp only[Option.getD_some]
 simp +decide only[go_sem]
 refine gw trivial ?_
 simp +decide only[go_sem]
 try rfl
theorem yEe (k tok:Nat) (tk:List Nat) (L:List D) (x:D) (h:L≠[]->tk[tok]?=some L.length):∃tok' tk',(∀bx,zZ k ⟨bx,tk⟩ (vdK k tok L) [x]=some (vdK k tok' (L++[x]),⟨bx,tk'⟩))/\tk'[tok']?=some (L.length+1):=by
 cases L with
 |nil=>exact⟨tk.length,tk++[1],λbx=>rfl,by simp⟩
 |cons a r=>
  have h:=h (by simp)
  refine⟨tok,tk.set tok (a::r++[x]).length,λbx=>?_,?_⟩
  ·simp[vdK,zZ,h]
  ·rw[List.getElem?_set_self (List.getElem?_eq_some_iff.1 h).1];simp
theorem zHb (g:Nat->Nat->Nat->Nat->D) (rs:List (Sl Val)):∀k,zC g (zEh rs k)=zEh rs k
 |0=>rfl
 | k+1=>by
  rw[zEh,uR,List.map_append,<-uR,zHb g rs k]
  congr 1
  cases rs[k]? with
  |none=>rfl
  |some r=>
   show [D.agg [.int .i64 ((k+1:Nat):Int),zF g (zQd r)]]=_
   rw[zHa]
theorem yYx (a:Int) (rs:List (Sl Val)) (c b:Int) (x:D) (hl:rs.length<=1000) (hx:zF noR x=x):zA (XG G) TT 75 [zBf a rs c b x,.func 76 []]=some (wW 2 (zMz rs)):=by
 have ha:=xBf (G:=G) rs c
 have hst:=zBo noR rs c
 refine zD T75 rfl (by simp only[zH,zR,yF,qL,hx];rfl) ?_
 unfold Tryz.f75 F75
 simp only[Option.getD_some]
 have hT:(zAr rs c).okC=true:=rfl
 have hT2:(zAr rs c).cells=[zAr rs c]:=rfl
 unfold zBf
 simp +decide only[go_sem,ra]
 refine gw (an4 ha hst hT hT2) ?_
 refine wpI_rf' (f:=248) (cap:=[.ref [zAr rs c] 0,.ref [.nilptr] 0,.ref [.nilptr] 0]) rfl (by decide) λR hR'=>?_
 have hR:R=.lrec _ [3,5] [.ptr 0 0,.ptr 1 0] [13,14] _ _ 0 0:=hR'
 clear hR'
 obtain⟨d,m',h1,tok,tk,h2,h3⟩:=xOz (G:=G) 2 (λk m=>∃tok tk,m=⟨[[.func 76 []],[vdK 2 tok (zEh rs k)],[R]],tk⟩/\(zEh rs k≠[]->tk[tok]?=some (zEh rs k).length)) rs c hl (λm tk T h _=>by
   obtain⟨tok,tk0,rfl,_⟩:=h
   exact⟨tok,tk,rfl,λe=>absurd rfl e⟩) (λk r m hr hP=>by
   obtain⟨tok,tk,rfl,htk⟩:=hP
   subst hR
   refine yXp (id:=2) rfl rfl ?_
   unfold zQd
   simp only[go_sem,List.zip_cons_cons,List.zip_nil_right,List.cons_append,List.nil_append]
   have hk:=(List.getElem?_eq_some_iff.1 hr).1
   have ht:=yYm (G:=G) (.slice none 3 (r.items.map vD)) (zHa noR r)
   have hsr:zC noR (r.items.map vD)=r.items.map vD:=zL vD (λv=>yW v) _
   refine gw (an4 ha hst hT hT2) ?_
   refine zUk rfl ?_
   simp only[go_sem,List.set_cons_succ,List.set_cons_zero]
   have z1:=λm=>qW m 2 tok (zEh rs k)
   have z2:=zAg rs k (by omega)
   have z3:(k+1<=16777216)=True:=eq_true (by omega)
   obtain⟨tok',tk',ha,htk'⟩:=yEe 2 tok tk (zEh rs k) (.agg [.int .i64 ((k+1:Nat):Int),.slice none 3 (r.items.map vD)]) htk
   have hst:zEh rs k++[.agg [.int .i64 ((k+1:Nat):Int),.slice none 3 (r.items.map vD)]]=zEh rs (k+1):=(zFz hr).symm
   rw[hst] at ha
   refine gw (an9 ha hst hT hT2 ht hsr z1 z2 (an z3 ha)) ?_
   refine yDl rfl ?_
   simp only[go_sem,List.set_cons_succ,List.set_cons_zero]
   exact⟨trivial,tok',tk',rfl,λ_=>by rw[htk',z2,zAg rs (k+1) hk]⟩) ⟨[[.func 76 []],[.nil],[R]],[]⟩ ⟨0,[],rfl,λe=>absurd rfl e⟩
 refine⟨d,m',h1,?_⟩
 subst h2
 subst hR
 refine zUn (by rfl) ?_
 simp only[go_sem,List.set_cons_succ,List.set_cons_zero]
 refine gw (an4 ha hst hT hT2) ?_
 simp +decide only[go_sem,ra]
 rw[zKo,zHb]
 rfl
theorem xPo (a:Int) (rs:List (Sl Val)) (c b:Int) (x:D) (hl:rs.length<=1000) (hx:zF noR x=x):zA (XG G) TT 74 [.ref [zBf a rs c b x] 0]=some (wW 2 (zMz rs)):=by
 have h:=yYx (G:=G) a rs c b x hl hx
 have hs:zF noR (zBf a rs c b x)=zBf a rs c b x:=by rw[qL,hx]
 have hok:(zBf a rs c b x).isO=false:=rfl
 have hse:∀g,zF g (wW 2 (zMz rs))=wW 2 (zMz rs):=λg=>zDt _ _ _ (zHb g rs _)
 generalize zBf a rs c b x=d at *
 refine zD T74 rfl (by simp only[zH,zR,yF,zBd,hs]) ?_
 unfold Tryz.f74 F74
 simp only[Option.getD_some]
 simp +decide only[go_sem]
 refine gw (an3 h hs hok) ?_
 simp +decide only[go_sem]
 try rw[hse]
def xEl (d:D):D:=.func 123 [.ref [.func 74 [.ref [d] 0]] 0]
theorem xAs (m:Mem) (f:D) (hf:f.okC=true) (hc:f.cells=[f]):zG (XG G) TT 73 m [f]=some (.func 123 [.ptr m.boxes.length 0],⟨m.boxes++[[f]],m.toks⟩):=by
 refine yB T73 rfl ?_
 unfold Tryz.f73 F73
 simp only[Option.getD_some]
 simp +decide only[go_sem]
 refine gw (an hf hc) ?_
 simp +decide only[go_sem]
 try exact⟨rfl,trivial⟩
theorem yYe (a:Int) (rs:List (Sl Val)) (c b:Int) (x:D) (hx:∀g,zF g x=x):zA (XG G) TT 40 [zBf a rs c b x]=some (xEl (zBf a rs c b x)):=by
 have hs:∀g,zF g (zBf a rs c b x)=zBf a rs c b x:=λg=>by rw[qL,hx]
 have hok:(zBf a rs c b x).okC=true:=rfl
 have hce:(zBf a rs c b x).cells=[zBf a rs c b x]:=rfl
 have hio:(zBf a rs c b x).isO=false:=rfl
 generalize zBf a rs c b x=d at *
 have h73:=xAs (G:=G) ⟨[[d]],[]⟩ (.func 74 [.ptr 0 0]) rfl rfl
 refine zD T40 rfl (by simp only[zH,zR,yF,hs]) ?_
 unfold Tryz.f40 F40
 simp only[Option.getD_some]
 simp +decide only[go_sem]
 refine gw (an5 hok hce hio hs h73) ?_
 simp +decide only[go_sem,ra]
 have h0:vM ⟨[[d],[D.func 74 [D.ptr 0 0]]],[]⟩ (0+1) 0 0 0 0=.ref [d] 0:=by
  rw[zAm (cs:=[d]) rfl hio];simp only[zR,yF,hs]
 have h1:vM ⟨[[d],[D.func 74 [D.ptr 0 0]]],[]⟩ (1+1) 1 0 0 0=.ref [.func 74 [.ref [d] 0]] 0:=by
  rw[zAm (cs:=[.func 74 [.ptr 0 0]]) rfl rfl]
  simp only[zR,yF,zLn,zBe]
  rw[h0]
 unfold xEl
 rw[<-h1]
theorem xBa (m:Mem) (r:Sl Val) (hl:r.items.length<=1000):∃(t:Nat) (tk:List Nat),zG (XG G) TT 89 m [zQd r]=some (.slice (some t) 3 (r.items.map vD),⟨m.boxes,m.toks++tk⟩):=
 yEa (G:=G) m ⟨some r.items,r.lt⟩ (by show r.items.length<=_;omega)
theorem yXv (y:Nat) (P:Nat->Mem->Prop) (Q:Mem->Prop) (a:Int) (rs:List (Sl Val)) (c b:Int) (x:D) (hl:rs.length<=1000) (hr:∀r∈rs,r.items.length<=1000) (hx:∀g,zF g x=x)
  (hP:∀(k:Nat) (m:Mem) (tk:List Nat),P k m->P k ⟨m.boxes,m.toks++tk⟩)
  (hS:∀(k:Nat) (r:Sl Val) (t:Nat) (m:Mem),rs[k]?=some r->P k m->(∃m',zG (XG G) TT (qQ+y) m [.int .i64 ((k+1:Nat):Int),.slice (some t) 3 (r.items.map vD)]=some (.bool true,m')/\P (k+1) m')\/(∃m',zG (XG G) TT (qQ+y) m [.int .i64 ((k+1:Nat):Int),.slice (some t) 3 (r.items.map vD)]=some (.bool false,m')/\Q m'))
  (m:Mem) (h0:P 0 m):∃d m',zG (XG G) TT 123 m [.yld y,.ref [.func 74 [.ref [zBf a rs c b x] 0]] 0]=some (d,m')/\(P rs.length m'\/Q m'):=by
 have h74:=xPo (G:=G) a rs c b x hl (hx noR)
 have hs:zF noR (zBf a rs c b x)=zBf a rs c b x:=by rw[qL,hx]
 have hio:(zBf a rs c b x).isO=false:=rfl
 generalize zBf a rs c b x=d at *
 have hln:=zKz
 have hix:=zFy
 have hel:(zMz rs).length=rs.length:=zAg rs rs.length (Nat.le_refl _)
 refine zO T123 rfl ?_
 unfold Tryz.f123 xKt
 simp only[Option.getD_some]
 simp +decide only[go_sem,ra]
 refine gw (an6 h74 hs hio hln hix hel) ?_
 refine lpC (T:=Nat×Mem) [0,6,7,8] (λp=>[(8,.int .i64 (p.1:Int))]) (λ_=>[]) (λp=>p.2) (λp=>p.1<=rs.length/\P p.1 p.2) (λp=>rs.length-p.1) (0,m) (by exact⟨Nat.zero_le _,h0⟩) ?_
 rintro ⟨k,m1⟩ ⟨hk,hI⟩
 simp only at hk hI ⊢
 by_cases h:k<rs.length
 ·obtain⟨l_r,r,g_r,w_r⟩:=elm (L:=rs) (k:=k) (by assumption) (by omega)
  have hxr:(zMz rs)[k]?=some (.agg [.int .i64 ((k+1:Nat):Int),zQd r]):=zPi rs rs.length k r (Nat.le_refl _) h g_r
  obtain⟨t,tk,hcl⟩:=xBa (G:=G) m1 r (hr r (List.mem_of_getElem? g_r))
  have hP2:=hP k m1 tk hI
  have y1:∀Q P:Prop,((Q\/Sub m1 ⟨m1.boxes,m1.toks++tk⟩)/\P)=P:=zAn (zDh λ_ _=>rfl)
  unfold zQd at hxr hcl
  rcases hS k r t ⟨m1.boxes,m1.toks++tk⟩ g_r hP2 with⟨m2,hy,hI2⟩|⟨m2,hy,hI2⟩
  ·refine gw (an9 h74 hs hio hln hix hel l_r g_r (an5 w_r hxr hcl hy y1)) ?_
   exact⟨(k+1,m2),by simp +decide only[go_sem]<;>rfl,⟨h,hI2⟩,by simp only;omega⟩
  ·refine gw (an9 h74 hs hio hln hix hel l_r g_r (an5 w_r hxr hcl hy y1)) ?_
   simp +decide only[go_sem]
   exact .inr hI2
 ·have l_r:((k:Int)<((rs).length:Int))=False:=by simp;omega
  refine gw (an7 h74 hs hio hln hix hel l_r) ?_
  simp +decide only[go_sem]
  obtain rfl:k=rs.length:=by omega
  exact .inl hI
end Go.Eng
