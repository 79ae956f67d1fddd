/- A part of the proof: see the last text. -/
import Derived.Test.YtggiaoaballdgaaGreatDoorJ16
import Derived.Test.YtggiaoaballdgaaGreatDoorJ11
set_option linter.unusedSimpArgs false
set_option linter.unusedVariables false
namespace Go.Eng
open Go Go.Proofs
open Nat renaming reduceAdd → ra, reduceMul → rb, reduceSub → rc
set_option maxRecDepth 20000
set_option maxHeartbeats 32000000
attribute [local irreducible] wpI xU
variable {G:Nat->Option (List D)}
def xHw (v:Val) (t:Int):Prop:=t = -1\/(t=0/\v=nul)\/(t=1/\v=⟨1,v.n,[]⟩)\/(t=2/\v=⟨2,0,v.s⟩/\zJo v.s=true/\v.s.length<=16)
theorem zJy {v:Val} {k n:Int} {s:Str} (h1:v.k=k) (h2:v.n=n) (h3:v.s=s):v=⟨k,n,s⟩:=by cases v;simp_all
theorem yNe (v:Val):∃t,zA (XG G) TT 109 [vD v]=some (.int .i64 t)/\xHw v t:=by
 suffices h:∃d,zA (XG G) TT 109 [vD v]=some d/\∃t,d=.int .i64 t/\xHw v t by
  obtain⟨d,h1,t,rfl,h2⟩:=h;exact⟨t,h1,h2⟩
 refine zS T109 rfl (by simp only[go_sem]) ?_
 unfold Tryz.f109 xLc
 simp only[Option.getD_some]
 simp +decide only[go_sem]
 rcases (by
  by_cases a:v.k=0/\v.n=0/\v.s=[]
  ·exact .inl a
  ·by_cases b:v.k=1/\v.s=[]/\0<=v.n/\v.n<=2147483648
   ·exact .inr (.inl b)
   ·by_cases c:v.k=2/\v.n=0/\(v.s.length:Int)<=16
    ·exact .inr (.inr (.inl c))
    ·exact .inr (.inr (.inr ⟨a,b,c⟩)):(v.k=0/\v.n=0/\v.s=[])\/(v.k=1/\v.s=[]/\0<=v.n/\v.n<=2147483648)\/(v.k=2/\v.n=0/\(v.s.length:Int)<=16)\/(¬(v.k=0/\v.n=0/\v.s=[])/\¬(v.k=1/\v.s=[]/\0<=v.n/\v.n<=2147483648)/\¬(v.k=2/\v.n=0/\(v.s.length:Int)<=16))) with⟨h1,h2,h3⟩|⟨h1,h2,h3,h4⟩|⟨h1,h2,h3⟩|⟨h1,h2,h3⟩
 ·have e1:(v.k==0)=true:=by simp[h1]
  have e2:(v.n==0)=true:=by simp[h2]
  have e3:(v.s==[])=true:=by simp[h3]
  refine gw (an3 e1 e2 e3) ?_
  simp +decide only[go_sem]
  exact⟨_,rfl,.inr (.inl ⟨rfl,zJy h1 h2 h3⟩)⟩
 ·have e1:(v.k==0)=false:=by simp[h1]
  have e2:(v.k==1)=true:=by simp[h1]
  have e3:(v.s==[])=true:=by simp[h2]
  have e4:((0:Int)<=v.n)=True:=eq_true h3
  have e5:(v.n<=2147483648)=True:=eq_true h4
  refine gw (an5 e1 e2 e3 e4 e5) ?_
  simp +decide only[go_sem]
  exact⟨_,rfl,.inr (.inr (.inl ⟨rfl,zJy h1 rfl h2⟩))⟩
 ·have e1:(v.k==0)=false:=by simp[h1]
  have e2:(v.k==1)=false:=by simp[h1]
  have e3:(v.k==2)=true:=by simp[h1]
  have e4:(v.n==0)=true:=by simp[h2]
  have e5:((v.s.length:Int)<=16)=True:=eq_true h3
  refine gw (an5 e1 e2 e3 e4 e5) ?_
  refine lpC (T:=Nat) [1,3] (λk=>[(3,.int .i64 (k:Int))]) (λ_=>[]) (λ_=>⟨[],[]⟩) (λk=>k<=v.s.length/\(v.s.take k).all prB=true) (λk=>v.s.length-k) 0 (by simp) ?_
  rintro k ⟨hk,hP⟩
  by_cases h:k<v.s.length
  ·obtain⟨l_x,x,g_x,w_x⟩:=elm (L:=v.s) (k:=k) (by assumption) (by omega)
   cases c1:(decide ((x.toNat:Int)<32))
   ·cases c2:(decide ((126:Int)<x.toNat))
    ·refine gw (an5 l_x g_x w_x c1 c2) ?_
     refine⟨k+1,by simp +decide only[go_sem]<;>rfl,⟨by omega,?_⟩,by omega⟩
     rw[List.take_add_one,g_x,List.all_append,hP]
     simp only[Option.toList_some,List.all_cons,List.all_nil,prB,c1,c2];rfl
    ·refine gw (an5 l_x g_x w_x c1 c2) ?_
     simp +decide only[go_sem]
     exact⟨_,rfl,.inl rfl⟩
   ·refine gw (an4 l_x g_x w_x c1) ?_
    simp +decide only[go_sem]
    exact⟨_,rfl,.inl rfl⟩
  ·have l_x:((k:Int)<((v.s).length:Int))=False:=by simp;omega
   rw[List.take_of_length_le (by omega),zRk] at hP
   refine gw l_x ?_
   simp +decide only[go_sem]
   exact⟨_,rfl,.inr (.inr (.inr ⟨rfl,zJy h1 h2 rfl,hP,by omega⟩))⟩
 ·have no:∀{p q:Bool},(p&&q)=false->p=false\/(p=true/\q=false):=by intro p q;cases p<;>cases q<;>simp
  have b1:(((v.k==0)&&(v.n==0))&&(v.s==[]))=false:=by
   rw[Bool.eq_false_iff];intro h;simp only[Bool.and_eq_true,beq_iff_eq] at h;exact h1 ⟨h.1.1,h.1.2,h.2⟩
  have b2:((((v.k==1)&&(v.s==[]))&&decide ((0:Int)<=v.n))&&decide (v.n<=2147483648))=false:=by
   rw[Bool.eq_false_iff];intro h;simp only[Bool.and_eq_true,beq_iff_eq,decide_eq_true_eq] at h;exact h2 ⟨h.1.1.1,h.1.1.2,h.1.2,h.2⟩
  have b3:(((v.k==2)&&(v.n==0))&&decide ((v.s.length:Int)<=16))=false:=by
   rw[Bool.eq_false_iff];intro h;simp only[Bool.and_eq_true,beq_iff_eq,decide_eq_true_eq] at h;exact h3 ⟨h.1.1,h.1.2,h.2⟩
  clear h1 h2 h3 no
  cases k0:v.k==0
  ·cases k1:v.k==1
   ·cases k2:v.k==2
    ·refine gw (an3 k0 k1 k2) ?_
     simp +decide only[go_sem]
     exact⟨_,rfl,.inl rfl⟩
    ·rw[k2,Bool.true_and] at b3
     cases n0:v.n==0
     ·refine gw (an4 k0 k1 k2 n0) ?_
      simp +decide only[go_sem]
      exact⟨_,rfl,.inl rfl⟩
     ·rw[n0,Bool.true_and] at b3
      refine gw (an5 k0 k1 k2 n0 b3) ?_
      simp +decide only[go_sem]
      exact⟨_,rfl,.inl rfl⟩
   ·have k2:(v.k==2)=false:=by have:=eq_of_beq k1;rw[this];rfl
    rw[k1,Bool.true_and] at b2
    cases s0:v.s==[]
    ·refine gw (an4 k0 k1 k2 s0) ?_
     simp +decide only[go_sem]
     exact⟨_,rfl,.inl rfl⟩
    ·rw[s0,Bool.true_and] at b2
     cases p0:decide ((0:Int)<=v.n)
     ·refine gw (an5 k0 k1 k2 s0 p0) ?_
      simp +decide only[go_sem]
      exact⟨_,rfl,.inl rfl⟩
     ·rw[p0,Bool.true_and] at b2
      refine gw (an6 k0 k1 k2 s0 p0 b2) ?_
      simp +decide only[go_sem]
      exact⟨_,rfl,.inl rfl⟩
  ·have k1:(v.k==1)=false:=by have:=eq_of_beq k0;rw[this];rfl
   have k2:(v.k==2)=false:=by have:=eq_of_beq k0;rw[this];rfl
   rw[k0,Bool.true_and] at b1
   cases n0:v.n==0
   ·refine gw (an4 k0 k1 k2 n0) ?_
    simp +decide only[go_sem]
    exact⟨_,rfl,.inl rfl⟩
   ·rw[n0,Bool.true_and] at b1
    refine gw (an5 k0 k1 k2 n0 b1) ?_
    simp +decide only[go_sem]
    exact⟨_,rfl,.inl rfl⟩
theorem yXn (c:Col):vr c=.agg [.int .i64 c.a.1,.int .i64 c.b.1,.int .i64 c.c.1,.int .i64 c.d.1,.bool (!c.e)]:=rfl
def tyL (l:List Col):List Int:=l.map λc=>c.a.1
theorem yMv {l:List Col} {k:Nat} {c:Col} (h:l[k]?=some c):(tyL l)[k]?=some c.a.1:=by unfold tyL;rw[List.getElem?_map,h];rfl
theorem yJo {l:List Int} {r:List Val} (hl:l.length=r.length) (h:∀(i:Nat) (v:Val) (t:Int),i<r.length->r[i]?=some v->l[i]?=some t->OKV t v):zIj l r:=
 ⟨hl.symm,λi v t h1 h2=>h i v t (List.getElem?_eq_some_iff.1 h1).1 h1 h2⟩
theorem xLq (l:Sl Col) (r:Sl Val):∃b,zA (XG G) TT 62 [sl 5 vr l,sl 3 vD r]=some (.bool b)/\(b=true->zIj (tyL l.items) r.items):=by
 suffices h:∃d,zA (XG G) TT 62 [sl 5 vr l,sl 3 vD r]=some d/\∃b,d=.bool b/\(b=true->zIj (tyL l.items) r.items) by
  obtain⟨d,h1,b,rfl,h2⟩:=h;exact⟨b,h1,h2⟩
 refine zS T62 rfl (by simp only[go_sem]) ?_
 unfold Tryz.f62 F62
 simp only[Option.getD_some]
 have hlt:=l.lt
 have hltr:=r.lt
 simp +decide only[go_sem,ra]
 cases cl:((l.items.length:Int) != (r.items.length:Int))
 ·have hlen:l.items.length=r.items.length:=by simp at cl;omega
  refine gw cl ?_
  refine lpC (T:=Nat) [0,1,5] (λk=>[(5,.int .i64 (k:Int))]) (λ_=>[]) (λ_=>⟨[],[]⟩) (λk=>k<=r.items.length/\∀(i:Nat) (v:Val) (t:Int),i<k->r.items[i]?=some v->(tyL l.items)[i]?=some t->OKV t v) (λk=>r.items.length-k) 0 (by exact⟨Nat.zero_le _,λi v t h=>by omega⟩) ?_
  rintro k ⟨hk,hP⟩
  try simp only at hk hP ⊢
  by_cases h:k<r.items.length
  ·obtain ⟨l_x,x,g_x,w_x⟩:=elm (L:=r.items) (k:=k) (by assumption) (by omega)
   obtain⟨c,g_c⟩:∃c,l.items[k]?=some c:=⟨_,List.getElem?_eq_getElem (by omega)⟩
   obtain⟨t,ht,hT⟩:=yNe (G:=G) x
   have hnext:OKV c.a.1 x->∀(i:Nat) (v:Val) (t:Int),i<k+1->r.items[i]?=some v->(tyL l.items)[i]?=some t->OKV t v:=λho i v t hi h1 h2=>by
    by_cases e:i<k
    ·exact hP i v t e h1 h2
    ·obtain rfl:i=k:=by omega
     rw[g_x] at h1;rw[yMv g_c] at h2
     cases h1;cases h2;exact ho
   simp only[zBg] at ht
   have b1:(!false)=true:=rfl
   have b2:(!true)=false:=rfl
   have hv:=yXn c
   cases k0:(x.k==0)
   ·cases k1:(x.k==1)
    ·cases k2:(x.k==2)
     ·refine gw (an9 cl l_x g_x w_x g_c ht hv b1 (an4 b2 k0 k1 k2)) ?_
      simp +decide only[go_sem]
      exact⟨_,rfl,λh=>by cases h⟩
     ·cases yy1:(c.a.1 != 2)
      ·cases yy2:(x.n != 0)
       ·cases yy3:(t != 2)
        ·refine gw (an9 cl l_x g_x w_x g_c ht hv b1 (an7 b2 k0 k1 k2 yy1 yy2 yy3)) ?_
         have ho:OKV c.a.1 x:=by
          have e1:c.a.1=2:=by simpa using yy1
          have e3:t=2:=by simpa using yy3
          rw[e1]
          rcases hT with hT|hT|hT|hT
          ·omega
          ·omega
          ·omega
          ·rw[hT.2.1];exact .txt _ hT.2.2.1 hT.2.2.2
         exact⟨k+1,by simp +decide only[go_sem]<;>rfl,⟨h,hnext ho⟩,by omega⟩
        ·refine gw (an9 cl l_x g_x w_x g_c ht hv b1 (an7 b2 k0 k1 k2 yy1 yy2 yy3)) ?_
         simp +decide only[go_sem]
         exact⟨_,rfl,λh=>by cases h⟩
       ·refine gw (an9 cl l_x g_x w_x g_c ht hv b1 (an6 b2 k0 k1 k2 yy1 yy2)) ?_
        simp +decide only[go_sem]
        exact⟨_,rfl,λh=>by cases h⟩
      ·refine gw (an9 cl l_x g_x w_x g_c ht hv b1 (an5 b2 k0 k1 k2 yy1)) ?_
       simp +decide only[go_sem]
       exact⟨_,rfl,λh=>by cases h⟩
    ·cases yy1:(c.a.1 != 1)
     ·cases yy2:(x.s==[])
      ·refine gw (an9 cl l_x g_x w_x g_c ht hv b1 (an5 b2 k0 k1 yy1 yy2)) ?_
       simp +decide only[go_sem]
       exact⟨_,rfl,λh=>by cases h⟩
      ·cases yy3:(decide (x.n < -2147483648))
       ·cases yy4:(decide ((2147483647:Int)<x.n))
        ·refine gw (an9 cl l_x g_x w_x g_c ht hv b1 (an7 b2 k0 k1 yy1 yy2 yy3 yy4)) ?_
         have ho:OKV c.a.1 x:=by
          have e1:c.a.1=1:=by simpa using yy1
          have e2:x.s=[]:=by simpa using yy2
          have e3:x.k=1:=by simpa using k1
          rw[e1,zJy e3 rfl e2];exact .int _
         exact⟨k+1,by simp +decide only[go_sem]<;>rfl,⟨h,hnext ho⟩,by omega⟩
        ·refine gw (an9 cl l_x g_x w_x g_c ht hv b1 (an7 b2 k0 k1 yy1 yy2 yy3 yy4)) ?_
         simp +decide only[go_sem]
         exact⟨_,rfl,λh=>by cases h⟩
       ·refine gw (an9 cl l_x g_x w_x g_c ht hv b1 (an6 b2 k0 k1 yy1 yy2 yy3)) ?_
        simp +decide only[go_sem]
        exact⟨_,rfl,λh=>by cases h⟩
     ·refine gw (an9 cl l_x g_x w_x g_c ht hv b1 (an4 b2 k0 k1 yy1)) ?_
      simp +decide only[go_sem]
      exact⟨_,rfl,λh=>by cases h⟩
   ·cases yy1:(x.n != 0)
    ·cases yy2:(x.s==[])
     ·refine gw (an9 cl l_x g_x w_x g_c ht hv b1 (an4 b2 k0 yy1 yy2)) ?_
      simp +decide only[go_sem]
      exact⟨_,rfl,λh=>by cases h⟩
     ·refine gw (an9 cl l_x g_x w_x g_c ht hv b1 (an4 b2 k0 yy1 yy2)) ?_
      have ho:OKV c.a.1 x:=by
       have e1:x.k=0:=by simpa using k0
       have e2:x.n=0:=by simpa using yy1
       have e3:x.s=[]:=by simpa using yy2
       rw[zJy e1 e2 e3];exact .nul _
      exact⟨k+1,by simp +decide only[go_sem]<;>rfl,⟨h,hnext ho⟩,by omega⟩
    ·refine gw (an9 cl l_x g_x w_x g_c ht hv b1 (an3 b2 k0 yy1)) ?_
     simp +decide only[go_sem]
     exact⟨_,rfl,λh=>by cases h⟩
  ·have l_e:((k:Int)<((r.items).length:Int))=False:=by simp;omega
   refine gw (an cl l_e) ?_
   simp +decide only[go_sem]
   exact⟨_,rfl,λ_=>yJo (by simp[tyL,hlen]) λi v t hi=>hP i v t (by omega)⟩
 ·refine gw cl ?_
  simp +decide only[go_sem]
  exact⟨_,rfl,λh=>by cases h⟩
theorem zSg :∀(N:Nat) (x:Ex),SizeOf.sizeOf (zM x)<N->∃b,zA (XG G) TT 284 [zM x]=some (.bool b)/\(b=false->yHg (λ_=>False) (tmE x))
 |0,x,h=>absurd h (Nat.not_lt_zero _)
 | N+1,x,h=>by
  obtain⟨e,he,hs⟩:=x.open
  have ih:=λ(y:Ex) (hy:y∈e.args.items)=>zSg N y (by have:=hs y hy;omega)
  suffices h:∃d,zA (XG G) TT 284 [zM x]=some d/\∃b,d=.bool b/\(b=false->yHg (λ_=>False) (tmE x)) by
   obtain⟨d,h1,b,rfl,h2⟩:=h;exact⟨b,h1,h2⟩
  unfold tmE
  rw[he]
  refine zS T284 rfl (by simp only[go_sem]) ?_
  unfold Tryz.f284 xHy
  simp only[Option.getD_some]
  have hlt:=e.args.lt
  simp +decide only[go_sem]
  refine gw trivial ?_
  refine lpC (T:=Nat) [1,3] (λk=>[(3,.int .i64 (k:Int))]) (λ_=>[]) (λ_=>⟨[],[]⟩) (λk=>k<=e.args.items.length/\∀a∈e.args.items.take k,yHg (λ_=>False) (tmE a)) (λk=>e.args.items.length-k) 0 (by simp) ?_
  rintro k ⟨hk,hP⟩
  by_cases h:k<e.args.items.length
  ·obtain⟨l_a,a,g_a,w_a⟩:=elm (L:=e.args.items) (k:=k) (by assumption) (by omega)
   obtain⟨b,hb,hv⟩:=ih a (List.mem_of_getElem? g_a)
   cases b with
   |false=>
    refine gw (an4 l_a g_a w_a hb) ?_
    refine⟨k+1,by simp +decide only[go_sem]<;>rfl,⟨h,λy hy=>?_⟩,by omega⟩
    rw[List.take_add_one,g_a,List.mem_append] at hy
    rcases hy with hy|hy
    ·exact hP y hy
    ·simp at hy;subst hy;exact hv rfl
   |true=>
    refine gw (an4 l_a g_a w_a hb) ?_
    simp +decide only[go_sem]
    exact⟨_,rfl,λh=>by cases h⟩
  ·have l_a:((k:Int)<((e.args.items).length:Int))=False:=by simp;omega
   rw[List.take_of_length_le (by omega)] at hP
   refine gw l_a ?_
   simp +decide only[go_sem]
   refine⟨_,rfl,λh=>?_⟩
   show yHg (λ_=>False) (tmD e.enc)
   rw[xG]
   refine .nd _ _ _ _ (λh2=>by rw[h2] at h;cases h) λa ha=>?_
   obtain⟨y,hy,rfl⟩:=List.mem_map.1 ha
   exact hP y hy
theorem yDy (x:Ex):∃b,zA (XG G) TT 284 [zM x]=some (.bool b)/\(b=false->yHg (λ_=>False) (tmE x)):=zSg _ x (Nat.lt_succ_self _)
theorem zNz :∀(N:Nat) (x:Ex),SizeOf.sizeOf (zM x)<N->∃n:Int,zA (XG G) TT 106 [zM x]=some (.int .i64 n)
 |0,x,h=>absurd h (Nat.not_lt_zero _)
 | N+1,x,h=>by
  obtain⟨e,he,hs⟩:=x.open
  have ih:=λ(y:Ex) (hy:y∈e.args.items)=>zNz N y (by have:=hs y hy;omega)
  suffices h:∃d,zA (XG G) TT 106 [zM x]=some d/\∃n:Int,d=.int .i64 n by
   obtain⟨d,h1,b,rfl⟩:=h;exact⟨b,h1⟩
  rw[he]
  refine zS T106 rfl (by simp only[go_sem]) ?_
  unfold Tryz.f106 xLf
  simp only[Option.getD_some]
  have hlt:=e.args.lt
  simp +decide only[go_sem]
  refine gw trivial ?_
  refine lpC (T:=Nat×Int) [1,3,4] (λp=>[(4,.int .i64 (p.1:Int)),(3,.int .i64 p.2)]) (λ_=>[]) (λ_=>⟨[],[]⟩) (λp=>p.1<=e.args.items.length) (λp=>e.args.items.length-p.1) (0,1) (by simp) ?_
  rintro ⟨k,n⟩ hk
  simp only at hk ⊢
  by_cases h:k<e.args.items.length
  ·obtain⟨l_a,a,g_a,w_a⟩:=elm (L:=e.args.items) (k:=k) (by assumption) (by omega)
   cases c:(decide (n<100))
   ·refine gw (an4 l_a g_a w_a c) ?_
    simp +decide only[go_sem]
    exact⟨_,rfl⟩
   ·obtain⟨w,hb⟩:=ih a (List.mem_of_getElem? g_a)
    refine gw (an5 l_a g_a w_a c hb) ?_
    exact⟨(k+1,IntKind.i64.wrap (n+w)),by simp +decide only[go_sem]<;>rfl,h,by simp only;omega⟩
  ·have l_a:((k:Int)<((e.args.items).length:Int))=False:=by simp;omega
   refine gw l_a ?_
   simp +decide only[go_sem]
   exact⟨_,rfl⟩
theorem yKx (x:Ex):∃n:Int,zA (XG G) TT 106 [zM x]=some (.int .i64 n):=zNz _ x (Nat.lt_succ_self _)
theorem zOc (l:List Int) (V:Sl Col):∀(N:Nat) (x:Ex),SizeOf.sizeOf (zM x)<N->∀τ,τ=0\/τ=1->WT l (tmE x) τ->∃n:Int,zA (XG G) TT 165 [zM x,sl 5 vr V]=some (.int .i64 n)
 |0,x,h,τ,hτ,hw=>absurd h (Nat.not_lt_zero _)
 | N + 1, x,h,τ,hτ,hw=>by
  obtain⟨e,he,hs⟩:=x.open
  unfold tmE at hw
  rw[he] at hw ⊢
  have ih:∀y∈e.args.items,∀t,t=0\/t=1->WT l (tmE y) t->∃n:Int,zA (XG G) TT 165 [zM y,sl 5 vr V]=some (.int .i64 n):=λy hy t ht hw=>zOc l V N y (by have:=hs y hy;omega) t ht hw
  clear hs h he x
  have hlen:e.args.items.length<=2:=by rw[xG] at hw;simpa using hw.len
  suffices h:∃d,zA (XG G) TT 165 [e.enc,sl 5 vr V]=some d/\∃n:Int,d=.int .i64 n by
   obtain⟨d,h1,b,rfl⟩:=h;exact⟨b,h1⟩
  refine zS T165 rfl (by simp only[go_sem]) ?_
  unfold Tryz.f165 xJs
  simp only[Option.getD_some]
  simp +decide only[go_sem,ra]
  match h0:e.args.items,hlen with
  | [],_=>
   rw[xG,h0,List.map_nil] at hw
   rcases hw.inv0 with⟨h1,_⟩|⟨h2,_⟩
   ·have e1:(e.a.1==1)=true:=by simp[h1]
    refine gw e1 ?_
    simp +decide only[go_sem]
    exact⟨_,rfl⟩
   ·have e1:(e.a.1==1)=false:=by simp[h2]
    have e2:(e.a.1==2)=true:=by simp[h2]
    refine gw (an e1 e2) ?_
    simp +decide only[go_sem]
    exact⟨_,rfl⟩
  | [a],_=>
   rw[xG,h0,List.map_cons,List.map_nil] at hw
   have at0:atI e.args.items 0=some a:=by rw[h0];rfl
   obtain⟨t,hwt,hc⟩:=hw.inv1
   rcases hc with⟨h1,_,ht⟩|⟨h1,_,ht⟩|⟨_,h1,_⟩|⟨_,h1,_⟩
   ·obtain⟨n,hn⟩:=ih a (by simp[h0]) t ht hwt
    have e1:(e.a.1==1)=false:=by simp[h1]
    have e2:(e.a.1==2)=false:=by simp[h1]
    have e3:(e.a.1==9)=false:=by simp[h1]
    have e4:(e.a.1==3)=true:=by simp[h1]
    refine gw (an6 e1 e2 e3 e4 at0 hn) ?_
    simp +decide only[go_sem]
    exact⟨_,rfl⟩
   ·have e1:(e.a.1==1)=false:=by simp[h1]
    have e2:(e.a.1==2)=false:=by simp[h1]
    have e3:(e.a.1==9)=true:=by simp[h1]
    refine gw (an3 e1 e2 e3) ?_
    simp +decide only[go_sem]
    exact⟨_,rfl⟩
   ·omega
   ·omega
  | [a, b],_=>
   rw[xG,h0,List.map_cons,List.map_cons,List.map_nil] at hw
   have at0:atI e.args.items 0=some a:=by rw[h0];rfl
   have at1:atI e.args.items 1=some b:=by rw[h0];rfl
   obtain⟨t,u,hwt,hwu,hc⟩:=hw.inv2
   have hA:(4<=e.a.1/\e.a.1<=8)/\(t=0\/t=1)/\(u=0\/u=1):=by
    rcases hc with⟨a1,a2,_,a3,a4,_⟩|⟨_,_,h1,_⟩|⟨_,h1,_⟩|⟨_,h1,_⟩
    ·exact⟨⟨a1,a2⟩,a3,a4⟩
    ·omega
    ·omega
    ·omega
   clear hc
   obtain⟨⟨o1,o2⟩,ht,hu⟩:=hA
   obtain⟨n,hn⟩:=ih a (by simp[h0]) t ht hwt
   obtain⟨w,hwn⟩:=ih b (by simp[h0]) u hu hwu
   clear ih hwt hwu hw
   have e1:(e.a.1==1)=false:=by simp;omega
   have e2:(e.a.1==2)=false:=by simp;omega
   have e3:(e.a.1==9)=false:=by simp;omega
   have e4:(e.a.1==3)=false:=by simp;omega
   cases c1:(decide ((1152921504606846976:Int)<n))
   ·cases c2:(decide ((1152921504606846976:Int)<w))
    ·cases f4:(e.a.1==4)
     ·cases f5:(e.a.1==5)
      ·cases f6:(e.a.1==6)
       ·refine gw (an9 e1 e2 e3 e4 at0 at1 hn hwn (an5 c1 c2 f4 f5 f6)) ?_
        simp +decide only[go_sem]
        exact⟨_,rfl⟩
       ·cases w0:(w != 0)
        ·refine gw (an9 e1 e2 e3 e4 at0 at1 hn hwn (an6 c1 c2 f4 f5 f6 w0)) ?_
         simp +decide only[go_sem]
         exact⟨_,rfl⟩
        ·have w0':(w==0)=false:=by simpa using w0
         cases c3:(decide (IntKind.i64.wrap ((1152921504606846976:Int).tdiv w)<n))
         ·refine gw (an9 e1 e2 e3 e4 at0 at1 hn hwn (an8 c1 c2 f4 f5 f6 w0 c3 w0')) ?_
          simp +decide only[go_sem]
          exact⟨_,rfl⟩
         ·refine gw (an9 e1 e2 e3 e4 at0 at1 hn hwn (an8 c1 c2 f4 f5 f6 w0 c3 w0')) ?_
          simp +decide only[go_sem]
          exact⟨_,rfl⟩
      ·refine gw (an9 e1 e2 e3 e4 at0 at1 hn hwn (an4 c1 c2 f4 f5)) ?_
       simp +decide only[go_sem]
       exact⟨_,rfl⟩
     ·refine gw (an9 e1 e2 e3 e4 at0 at1 hn hwn (an3 c1 c2 f4)) ?_
      simp +decide only[go_sem]
      exact⟨_,rfl⟩
    ·refine gw (an9 e1 e2 e3 e4 at0 at1 hn hwn (an c1 c2)) ?_
     simp +decide only[go_sem]
     exact⟨_,rfl⟩
   ·refine gw (an9 e1 e2 e3 e4 at0 at1 hn hwn c1) ?_
    simp +decide only[go_sem]
    exact⟨_,rfl⟩
theorem zYl (l:List Int) (V:Sl Col) (x:Ex) (τ:Int) (hτ:τ=0\/τ=1) (hw:WT l (tmE x) τ):∃n:Int,zA (XG G) TT 165 [zM x,sl 5 vr V]=some (.int .i64 n):=zOc l V _ x (Nat.lt_succ_self _) τ hτ hw
end Go.Eng
