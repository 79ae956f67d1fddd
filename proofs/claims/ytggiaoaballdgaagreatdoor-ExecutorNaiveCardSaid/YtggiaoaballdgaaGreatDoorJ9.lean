/- A part of the proof: see the last text. -/
import Derived.KernelRfl
import Derived.Test.YtggiaoaballdgaaGreatDoorJ8
import Derived.Test.YtggiaoaballdgaaGreatDoorR2Tab
import Derived.Test.YtggiaoaballdgaaGreatDoorJ3
set_option linter.unusedSimpArgs false
set_option linter.unusedVariables false
namespace Go.Eng
open Go Go.Proofs
open Nat renaming reduceAdd → ra, reduceMul → rb, reduceSub → rc
set_option maxRecDepth 20000
set_option maxHeartbeats 32000000
attribute [local irreducible] wpI xU
variable {G:Nat->Option (List D)}
def zHs (x:Stm):Prop:=x.cols.items.length<=20/\x.keys.items.length<=10/\x.fgns.items.length<=10/\x.checks.items.length<=10/\x.name.length<=60/\(∀c∈x.cols.items,c.name.length<=60)/\(∀k∈x.keys.items,k.items.length<=20)/\(∀f∈x.fgns.items,f.cols.items.length<=20/\f.refs.items.length<=20)/\∀e∈x.checks.items,zIp (zM e)
theorem xLp (s:Sl Stm):∃b,zA (XG G) TT 98 [sl 22 wL s]=some (.bool b)/\(b=true->s.items.length<=12/\∀x∈s.items,zHs x):=by
 suffices h:∃v,zA (XG G) TT 98 [sl 22 wL s]=some v/\∃b,v=.bool b/\(b=true->s.items.length<=12/\∀x∈s.items,zHs x) by
  obtain⟨v,h1,b,rfl,h2⟩:=h;exact⟨b,h1,h2⟩
 refine zS T98 rfl (by simp only[go_sem]) ?_
 unfold Tryz.f98 F98
 simp only[Option.getD_some]
 simp +decide only[go_sem,ra]
 refine gw trivial ?_
 refine wM (T:=Nat) [0,3] (λk=>⟨slL [(0,sl 22 wL s),(3,.int .i64 (k:Int))],opL [],opL [],⟨[],[]⟩⟩) (λk=>k<=s.items.length/\∀x∈s.items.take k,zHs x) (λk=>s.items.length-k) 0 rfl (by simp +decide only[go_sem]<;>rfl) (by simp) ?_
 rintro k ⟨hk,hP⟩
 have hlt:=s.lt
 by_cases h:k<s.items.length
 ·obtain⟨l_x,x,g_x,w_x⟩:=elm (L:=s.items) (k:=k) (by assumption) (by omega)
  refine gw (an6 l_x g_x w_x l_x g_x w_x) ?_
  by_cases c1:(60:Int)<(x.name.length:Int)
  ·refine gw (an7 l_x g_x w_x l_x g_x w_x c1) ?_
   simp +decide only[go_sem]
   exact⟨_,rfl,λh=>by cases h⟩
  by_cases c2:(20:Int)<(x.cols.items.length:Int)
  ·refine gw (an8 l_x g_x w_x l_x g_x w_x c1 c2) ?_
   simp +decide only[go_sem]
   exact⟨_,rfl,λh=>by cases h⟩
  by_cases c3:(10:Int)<(x.keys.items.length:Int)
  ·refine gw (an9 l_x g_x w_x l_x g_x w_x c1 c2 c3) ?_
   simp +decide only[go_sem]
   exact⟨_,rfl,λh=>by cases h⟩
  by_cases c4:(10:Int)<(x.fgns.items.length:Int)
  ·refine gw (an9 l_x g_x w_x l_x g_x w_x c1 c2 (an c3 c4)) ?_
   simp +decide only[go_sem]
   exact⟨_,rfl,λh=>by cases h⟩
  by_cases c5:(10:Int)<(x.checks.items.length:Int)
  ·refine gw (an9 l_x g_x w_x l_x g_x w_x c1 c2 (an3 c3 c4 c5)) ?_
   simp +decide only[go_sem]
   exact⟨_,rfl,λh=>by cases h⟩
  refine gw (an9 l_x g_x w_x l_x g_x w_x c1 c2 (an3 c3 c4 c5)) ?_
  refine wM (T:=Nat) [0,3,4,5] (λk'=>⟨slL [(0,sl 22 wL s),(3,.int .i64 (k:Int)),(4,.undef),(5,.int .i64 (k':Int))],opL [(4,(4,0))],opL [(4,[sl 6 yO x.cols,sl 1 (sl 1 S) x.keys,sl 3 uM x.fgns,sl 8 zM x.checks])],⟨[],[]⟩⟩) (λk'=>k'<=x.cols.items.length/\∀y∈x.cols.items.take k',y.name.length<=60) (λk'=>x.cols.items.length-k') 0 rfl (by simp +decide only[go_sem]<;>rfl) (by simp) ?_
  rintro k1 ⟨hk1,hP1⟩
  by_cases h1:k1<x.cols.items.length
  ·obtain⟨l_y,y,g_y,w_y⟩:=elm (L:=x.cols.items) (k:=k1) (by assumption) (by omega)
   refine gw (an9 l_x g_x w_x l_y g_y w_y l_y g_y w_y) ?_
   by_cases c6:(60:Int)<(y.name.length:Int)
   ·refine gw (an9 l_x g_x w_x l_y g_y w_y l_y g_y (an w_y c6)) ?_
    simp +decide only[go_sem]
    exact⟨_,rfl,λh=>by cases h⟩
   ·refine gw (an9 l_x g_x w_x l_y g_y w_y l_y g_y (an w_y c6)) ?_
    exact⟨k1+1,by simp +decide only[go_sem]<;>rfl,⟨by omega,zDg hP1 g_y (by omega)⟩,by omega⟩
  have l_e1:((k1:Int)<((x.cols.items).length:Int))=False:=by simp;omega
  rw[List.take_of_length_le (by omega)] at hP1
  refine gw (an5 l_x g_x w_x l_e1 l_e1) ?_
  refine wM (T:=Nat) [0,3,4,6] (λk'=>⟨slL [(0,sl 22 wL s),(3,.int .i64 (k:Int)),(4,.undef),(6,.int .i64 (k':Int))],opL [(4,(4,0))],opL [(4,[sl 6 yO x.cols,sl 1 (sl 1 S) x.keys,sl 3 uM x.fgns,sl 8 zM x.checks])],⟨[],[]⟩⟩) (λk'=>k'<=x.keys.items.length/\∀y∈x.keys.items.take k',y.items.length<=20) (λk'=>x.keys.items.length-k') 0 rfl (by simp +decide only[go_sem]<;>rfl) (by simp) ?_
  rintro k2 ⟨hk2,hP2⟩
  by_cases h2:k2<x.keys.items.length
  ·obtain⟨l_y,y,g_y,w_y⟩:=elm (L:=x.keys.items) (k:=k2) (by assumption) (by omega)
   obtain⟨b,hb,hbt⟩:=few (G:=G) 0 y
   refine gw (an9 l_x g_x w_x l_e1 l_y g_y w_y l_y (an g_y w_y)) ?_
   cases b
   ·refine gw (an9 l_x g_x w_x l_e1 l_y g_y w_y l_y (an3 g_y w_y hb)) ?_
    simp +decide only[go_sem]
    exact⟨_,rfl,λh=>by cases h⟩
   ·refine gw (an9 l_x g_x w_x l_e1 l_y g_y w_y l_y (an3 g_y w_y hb)) ?_
    exact⟨k2+1,by simp +decide only[go_sem]<;>rfl,⟨by omega,zDg hP2 g_y (by have:=hbt rfl;omega)⟩,by omega⟩
  have l_e2:((k2:Int)<((x.keys.items).length:Int))=False:=by simp;omega
  rw[List.take_of_length_le (by omega)] at hP2
  refine gw (an6 l_x g_x w_x l_e1 l_e2 l_e2) ?_
  refine wM (T:=Nat) [0,3,4,7] (λk'=>⟨slL [(0,sl 22 wL s),(3,.int .i64 (k:Int)),(4,.undef),(7,.int .i64 (k':Int))],opL [(4,(4,0))],opL [(4,[sl 6 yO x.cols,sl 1 (sl 1 S) x.keys,sl 3 uM x.fgns,sl 8 zM x.checks])],⟨[],[]⟩⟩) (λk'=>k'<=x.fgns.items.length/\∀y∈x.fgns.items.take k',y.cols.items.length<=20/\y.refs.items.length<=20) (λk'=>x.fgns.items.length-k') 0 rfl (by simp +decide only[go_sem]<;>rfl) (by simp) ?_
  rintro k3 ⟨hk3,hP3⟩
  by_cases h3:k3<x.fgns.items.length
  ·obtain⟨l_y,y,g_y,w_y⟩:=elm (L:=x.fgns.items) (k:=k3) (by assumption) (by omega)
   obtain⟨b,hb,hbt⟩:=few (G:=G) 0 y.cols
   obtain⟨b',hb',hbt2⟩:=few (G:=G) 0 y.refs
   refine gw (an9 l_x g_x w_x l_e1 l_e2 l_y g_y w_y (an3 l_y g_y w_y)) ?_
   by_cases c6:(60:Int)<(y.table.length:Int)
   ·refine gw (an9 l_x g_x w_x l_e1 l_e2 l_y g_y w_y (an4 l_y g_y w_y c6)) ?_
    simp +decide only[go_sem]
    exact⟨_,rfl,λh=>by cases h⟩
   cases b
   ·refine gw (an9 l_x g_x w_x l_e1 l_e2 l_y g_y w_y (an5 l_y g_y w_y c6 hb)) ?_
    simp +decide only[go_sem]
    exact⟨_,rfl,λh=>by cases h⟩
   cases b'
   ·refine gw (an9 l_x g_x w_x l_e1 l_e2 l_y g_y w_y (an6 l_y g_y w_y c6 hb hb')) ?_
    simp +decide only[go_sem]
    exact⟨_,rfl,λh=>by cases h⟩
   ·refine gw (an9 l_x g_x w_x l_e1 l_e2 l_y g_y w_y (an6 l_y g_y w_y c6 hb hb')) ?_
    exact⟨k3+1,by simp +decide only[go_sem]<;>rfl,⟨by omega,zDg hP3 g_y (⟨by have:=hbt rfl;omega,by have:=hbt2 rfl;omega⟩)⟩,by omega⟩
  have l_e3:((k3:Int)<((x.fgns.items).length:Int))=False:=by simp;omega
  rw[List.take_of_length_le (by omega)] at hP3
  refine gw (an7 l_x g_x w_x l_e1 l_e2 l_e3 l_e3) ?_
  refine wM (T:=Nat) [0,3,4,8] (λk'=>⟨slL [(0,sl 22 wL s),(3,.int .i64 (k:Int)),(4,.undef),(8,.int .i64 (k':Int))],opL [(4,(4,0))],opL [(4,[sl 6 yO x.cols,sl 1 (sl 1 S) x.keys,sl 3 uM x.fgns,sl 8 zM x.checks])],⟨[],[]⟩⟩) (λk'=>k'<=x.checks.items.length/\∀y∈x.checks.items.take k',zIp (zM y)) (λk'=>x.checks.items.length-k') 0 rfl (by simp +decide only[go_sem]<;>rfl) (by simp) ?_
  rintro k4 ⟨hk4,hP4⟩
  by_cases h4:k4<x.checks.items.length
  ·obtain⟨l_y,y,g_y,w_y⟩:=elm (L:=x.checks.items) (k:=k4) (by assumption) (by omega)
   obtain⟨b,hb,hbt⟩:=xVe (G:=G) y 4
   refine gw (an9 l_x g_x w_x l_e1 l_e2 l_e3 l_y g_y (an4 w_y l_y g_y w_y)) ?_
   cases b
   ·refine gw (an9 l_x g_x w_x l_e1 l_e2 l_e3 l_y g_y (an5 w_y l_y g_y w_y hb)) ?_
    simp +decide only[go_sem]
    exact⟨_,rfl,λh=>by cases h⟩
   ·refine gw (an9 l_x g_x w_x l_e1 l_e2 l_e3 l_y g_y (an5 w_y l_y g_y w_y hb)) ?_
    exact⟨k4+1,by simp +decide only[go_sem]<;>rfl,⟨by omega,zDg hP4 g_y (hbt rfl)⟩,by omega⟩
  have l_e4:((k4:Int)<((x.checks.items).length:Int))=False:=by simp;omega
  rw[List.take_of_length_le (by omega)] at hP4
  refine gw (an9 l_x g_x w_x l_e1 l_e2 l_e3 l_e4 l_e4 w_x) ?_
  refine⟨k+1,by simp +decide only[go_sem]<;>rfl,⟨by omega,?_⟩,by omega⟩
  intro z hz
  rw[List.take_add_one,g_x] at hz
  rcases List.mem_append.1 hz with hz|hz
  ·exact hP z hz
  ·have hz:z=x:=by simpa using hz
   subst hz
   exact⟨by omega,by omega,by omega,by omega,by omega,hP1,hP2,hP3,hP4⟩
 ·have l_x:((k:Int)<((s.items).length:Int))=False:=by simp;omega
  have ht:s.items.take k=s.items:=List.take_of_length_le (by omega)
  rw[ht] at hP
  by_cases c:(s.items.length:Int)<=12
  ·refine gw (an3 l_x l_x c) ?_
   simp +decide only[go_sem]
   exact⟨_,rfl,λ_=>⟨by omega,hP⟩⟩
  ·refine gw (an3 l_x l_x c) ?_
   simp +decide only[go_sem]
   exact⟨_,rfl,λh=>by cases h⟩
def zHr (t:Tbl):Prop:=t.cols.items.length<=20/\t.keys.items.length<=10/\t.fgns.items.length<=10/\t.checks.items.length<=10/\(∀y∈t.keys.items,y.items.length<=20)/\(∀y∈t.fgns.items,y.cols.items.length<=20)/\t.name.length<=60/\(∀c∈t.cols.items,c.name.length<=60)/\∀e∈t.checks.items,zIp (zM e)
def zWi :xEm 16:=⟨[.nil,.nil,.nil,.nil,.int .i64 0,.str [],.str [],.int .i64 0,.int .i64 0,.int .i64 0,.str [],.nil,.nil,.nil,.int .i64 0,.str []],rfl,λg=>by simp only[go_sem]⟩
theorem yJi (t:Tbl):∃b,zA (XG G) TT 98 [.slice none 22 [.agg [.int .i64 0,.str t.name,sl 6 yO t.cols,.nil,.nil,sl 8 zM t.checks,.nil,.nil,.nil,.nil,.int .i64 0,.str [],.str [],.int .i64 0,.int .i64 0,.int .i64 0,.str [],.nil,.nil,.nil,.int .i64 0,.str []]]]=some (.bool b)/\
  (b=true->t.cols.items.length<=20/\t.checks.items.length<=10/\t.name.length<=60/\(∀c∈t.cols.items,c.name.length<=60)/\∀e∈t.checks.items,zIp (zM e)):=by
 obtain⟨b,h1,h2⟩:=xLp (G:=G) ⟨some [⟨⟨0,by decide⟩,t.name,t.cols,⟨none,by simp⟩,⟨none,by simp⟩,t.checks,zWi⟩],by simp⟩
 refine⟨b,h1,λhb=>?_⟩
 have:=(h2 hb).2 _ (List.mem_singleton.2 rfl)
 exact⟨this.1,this.2.2.2.1,this.2.2.2.2.1,this.2.2.2.2.2.1,this.2.2.2.2.2.2.2.2⟩
theorem yYy (s:Sl Tbl):∃b,zA (XG G) TT 56 [sl 5 zQ s]=some (.bool b)/\(b=true->s.items.length<=12/\∀x∈s.items,zHr x):=by
 suffices h:∃v,zA (XG G) TT 56 [sl 5 zQ s]=some v/\∃b,v=.bool b/\(b=true->s.items.length<=12/\∀x∈s.items,zHr x) by
  obtain⟨v,h1,b,rfl,h2⟩:=h;exact⟨b,h1,h2⟩
 refine zS T56 rfl (by simp only[go_sem]) ?_
 unfold Tryz.f56 F56
 simp only[Option.getD_some]
 simp +decide only[go_sem,ra]
 refine gw trivial ?_
 refine wM (T:=Nat) [0,3] (λk=>⟨slL [(0,sl 5 zQ s),(3,.int .i64 (k:Int))],opL [],opL [],⟨[],[]⟩⟩) (λk=>k<=s.items.length/\∀x∈s.items.take k,zHr x) (λk=>s.items.length-k) 0 rfl (by simp +decide only[go_sem]<;>rfl) (by simp) ?_
 rintro k ⟨hk,hP⟩
 have hlt:=s.lt
 by_cases h:k<s.items.length
 ·obtain⟨l_x,x,g_x,w_x⟩:=elm (L:=s.items) (k:=k) (by assumption) (by omega)
  obtain⟨b,hb,hbt⟩:=yJi (G:=G) x
  refine gw (an6 l_x g_x w_x l_x g_x w_x) ?_
  by_cases c1:(10:Int)<(x.keys.items.length:Int)
  ·refine gw (an7 l_x g_x w_x l_x g_x w_x c1) ?_
   simp +decide only[go_sem]
   exact⟨_,rfl,λh=>by cases h⟩
  by_cases c2:(10:Int)<(x.fgns.items.length:Int)
  ·refine gw (an8 l_x g_x w_x l_x g_x w_x c1 c2) ?_
   simp +decide only[go_sem]
   exact⟨_,rfl,λh=>by cases h⟩
  cases b
  ·refine gw (an9 l_x g_x w_x l_x g_x w_x c1 c2 hb) ?_
   simp +decide only[go_sem]
   exact⟨_,rfl,λh=>by cases h⟩
  have hbt:=hbt rfl
  refine gw (an9 l_x g_x w_x l_x g_x w_x c1 c2 hb) ?_
  refine wM (T:=Nat) [0,3,4,5] (λk'=>⟨slL [(0,sl 5 zQ s),(3,.int .i64 (k:Int)),(4,.undef),(5,.int .i64 (k':Int))],opL [(4,(4,0))],opL [(4,[.str x.name,sl 6 yO x.cols,sl 1 (sl 1 I) x.keys,sl 3 yH x.fgns,sl 8 zM x.checks])],⟨[],[]⟩⟩) (λk'=>k'<=x.keys.items.length/\∀y∈x.keys.items.take k',y.items.length<=20) (λk'=>x.keys.items.length-k') 0 rfl (by simp +decide only[go_sem]<;>rfl) (by simp) ?_
  rintro k1 ⟨hk1,hP1⟩
  by_cases h1:k1<x.keys.items.length
  ·obtain⟨l_y,y,g_y,w_y⟩:=elm (L:=x.keys.items) (k:=k1) (by assumption) (by omega)
   obtain⟨b,hb,hb2⟩:=yDx (G:=G) y.items.length
   refine gw (an9 l_x g_x w_x l_y g_y w_y l_y g_y w_y) ?_
   cases b
   ·refine gw (an9 l_x g_x w_x l_y g_y w_y l_y g_y (an w_y hb)) ?_
    simp +decide only[go_sem]
    exact⟨_,rfl,λh=>by cases h⟩
   ·refine gw (an9 l_x g_x w_x l_y g_y w_y l_y g_y (an w_y hb)) ?_
    refine⟨k1+1,by simp +decide only[go_sem]<;>rfl,⟨by omega,?_⟩,by omega⟩
    intro z hz
    rw[List.take_add_one,g_y] at hz
    rcases List.mem_append.1 hz with hz|hz
    ·exact hP1 z hz
    ·have hz:z=y:=by simpa using hz
     subst hz
     have:=hb2 rfl
     omega
  have l_e1:((k1:Int)<((x.keys.items).length:Int))=False:=by simp;omega
  rw[List.take_of_length_le (by omega)] at hP1
  refine gw (an5 l_x g_x w_x l_e1 l_e1) ?_
  refine wM (T:=Nat) [0,3,4,6] (λk'=>⟨slL [(0,sl 5 zQ s),(3,.int .i64 (k:Int)),(4,.undef),(6,.int .i64 (k':Int))],opL [(4,(4,0))],opL [(4,[.str x.name,sl 6 yO x.cols,sl 1 (sl 1 I) x.keys,sl 3 yH x.fgns,sl 8 zM x.checks])],⟨[],[]⟩⟩) (λk'=>k'<=x.fgns.items.length/\∀y∈x.fgns.items.take k',y.cols.items.length<=20) (λk'=>x.fgns.items.length-k') 0 rfl (by simp +decide only[go_sem]<;>rfl) (by simp) ?_
  rintro k2 ⟨hk2,hP2⟩
  by_cases h2:k2<x.fgns.items.length
  ·obtain⟨l_y,y,g_y,w_y⟩:=elm (L:=x.fgns.items) (k:=k2) (by assumption) (by omega)
   obtain⟨b,hb,hb2⟩:=yDx (G:=G) y.cols.items.length
   refine gw (an9 l_x g_x w_x l_e1 l_y g_y w_y l_y (an g_y w_y)) ?_
   cases b
   ·refine gw (an9 l_x g_x w_x l_e1 l_y g_y w_y l_y (an3 g_y w_y hb)) ?_
    simp +decide only[go_sem]
    exact⟨_,rfl,λh=>by cases h⟩
   ·refine gw (an9 l_x g_x w_x l_e1 l_y g_y w_y l_y (an3 g_y w_y hb)) ?_
    refine⟨k2+1,by simp +decide only[go_sem]<;>rfl,⟨by omega,?_⟩,by omega⟩
    intro z hz
    rw[List.take_add_one,g_y] at hz
    rcases List.mem_append.1 hz with hz|hz
    ·exact hP2 z hz
    ·have hz:z=y:=by simpa using hz
     subst hz
     have:=hb2 rfl
     omega
  have l_e2:((k2:Int)<((x.fgns.items).length:Int))=False:=by simp;omega
  rw[List.take_of_length_le (by omega)] at hP2
  refine gw (an7 l_x g_x w_x l_e1 l_e2 l_e2 w_x) ?_
  refine⟨k+1,by simp +decide only[go_sem]<;>rfl,⟨by omega,?_⟩,by omega⟩
  intro z hz
  rw[List.take_add_one,g_x] at hz
  rcases List.mem_append.1 hz with hz|hz
  ·exact hP z hz
  ·have hz:z=x:=by simpa using hz
   subst hz
   exact⟨hbt.1,by omega,by omega,hbt.2.1,hP1,hP2,hbt.2.2⟩
 ·have l_x:((k:Int)<((s.items).length:Int))=False:=by simp;omega
  have ht:s.items.take k=s.items:=List.take_of_length_le (by omega)
  rw[ht] at hP
  by_cases c:(s.items.length:Int)<=12
  ·refine gw (an3 l_x l_x c) ?_
   simp +decide only[go_sem]
   exact⟨_,rfl,λ_=>⟨by omega,hP⟩⟩
  ·refine gw (an3 l_x l_x c) ?_
   simp +decide only[go_sem]
   exact⟨_,rfl,λh=>by cases h⟩
end Go.Eng
namespace Go.Eng
open Go Go.Proofs
def tvL :List D:=[.int .i64 0,.int .i64 2,.int .i64 1]
def GK :Nat->Option (List D):=λg=>match Nat.beq g 0 with|true=>some tvL|false=>none
@[go_sem] theorem xZf :GK 0=some tvL:=rfl
end Go.Eng
namespace Go.Eng
open Go Go.Proofs
open Nat renaming reduceAdd → ra, reduceMul → rb, reduceSub → rc
set_option maxRecDepth 20000
set_option maxHeartbeats 32000000
attribute [local irreducible] wpI xU
variable {G:Nat->Option (List D)}
def fnd {α:Type} (p:α->Bool):Nat->List α->Option Nat
 |_,[]=>none
 |i,a::r=>match p a with|true=>some i|false=>fnd p (i+1) r
def yUw :Option Nat->D
 |some k=>.int .i64 (k:Int)
 |none=>.int .i64 (-1)
def yHf :Option Nat->D
 |some k=>.tuple [.int .i64 (k:Int),.bool true]
 |none=>.tuple [.int .i64 0,.bool false]
theorem zCk {α:Type} {l:List α} {k:Nat} {a:α} (h:l[k]?=some a):l.drop k=a::l.drop (k+1):=by
 obtain⟨hk,rfl⟩:=List.getElem?_eq_some_iff.1 h
 exact List.drop_eq_getElem_cons hk
theorem yNq (s:Sl Tbl) (nm:Str):zA (XG G) TT 237 [sl 5 zQ s,.str nm]=some (yHf (fnd (λt:Tbl=>t.name==nm) 0 s.items)):=by
 refine zD T237 rfl (by simp only[go_sem]) ?_
 unfold Tryz.f237 xIv
 simp only[Option.getD_some]
 have hlt:=s.lt
 simp +decide only[go_sem,ra]
 refine gw trivial ?_
 refine wM (T:=Nat) [0,1,6] (λk=>⟨slL [(0,sl 5 zQ s),(1,.str nm),(6,.int .i64 (k:Int))],opL [],opL [],⟨[],[]⟩⟩) (λk=>k<=s.items.length/\fnd (λt:Tbl=>t.name==nm) k (s.items.drop k)=fnd (λt:Tbl=>t.name==nm) 0 s.items) (λk=>s.items.length-k) 0 rfl (by simp +decide only[go_sem]<;>rfl) (by simp) ?_
 rintro k ⟨hk,hP⟩
 by_cases h:k<s.items.length
 ·obtain⟨l_x,x,g_x,w_x⟩:=elm (L:=s.items) (k:=k) (by assumption) (by omega)
  rw[zCk g_x,fnd] at hP
  cases c:(x.name==nm)
  ·rw[c] at hP
   refine gw (an7 l_x g_x w_x l_x g_x w_x c) ?_
   exact⟨k+1,by simp +decide only[go_sem]<;>rfl,⟨by omega,hP⟩,by omega⟩
  ·rw[c] at hP
   refine gw (an7 l_x g_x w_x l_x g_x w_x c) ?_
   simp +decide only[go_sem]
   rw[<-hP]
   rfl
 ·have l_x:((k:Int)<((s.items).length:Int))=False:=by simp;omega
  rw[List.drop_eq_nil_of_le (by omega),fnd] at hP
  refine gw (an l_x l_x) ?_
  simp +decide only[go_sem]
  rw[<-hP]
  rfl
theorem xPh (t:Tbl) (nm:Str):zA (XG G) TT 283 [zQ t,.str nm]=some (yHf (fnd (λt:Col=>t.name==nm) 0 t.cols.items)):=by
 refine zD T283 rfl (by simp only[go_sem]) ?_
 unfold Tryz.f283 xHz
 simp only[Option.getD_some]
 have hlt:=t.cols.lt
 simp +decide only[go_sem,ra]
 refine gw trivial ?_
 refine wM (T:=Nat) [1,2,6] (λk=>⟨slL [(1,.str nm),(2,.undef),(6,.int .i64 (k:Int))],opL [(2,(2,0))],opL [(2,[.str t.name,sl 6 yO t.cols,sl 1 (sl 1 I) t.keys,sl 3 yH t.fgns,sl 8 zM t.checks])],⟨[],[]⟩⟩) (λk=>k<=t.cols.items.length/\fnd (λt:Col=>t.name==nm) k (t.cols.items.drop k)=fnd (λt:Col=>t.name==nm) 0 t.cols.items) (λk=>t.cols.items.length-k) 0 rfl (by simp +decide only[go_sem]<;>rfl) (by simp) ?_
 rintro k ⟨hk,hP⟩
 by_cases h:k<t.cols.items.length
 ·obtain⟨l_x,x,g_x,w_x⟩:=elm (L:=t.cols.items) (k:=k) (by assumption) (by omega)
  rw[zCk g_x,fnd] at hP
  cases c:(x.name==nm)
  ·rw[c] at hP
   refine gw (an7 l_x g_x w_x l_x g_x w_x c) ?_
   exact⟨k+1,by simp +decide only[go_sem]<;>rfl,⟨by omega,hP⟩,by omega⟩
  ·rw[c] at hP
   refine gw (an7 l_x g_x w_x l_x g_x w_x c) ?_
   simp +decide only[go_sem]
   rw[<-hP]
   rfl
 ·have l_x:((k:Int)<((t.cols.items).length:Int))=False:=by simp;omega
  rw[List.drop_eq_nil_of_le (by omega),fnd] at hP
  refine gw (an l_x l_x) ?_
  simp +decide only[go_sem]
  rw[<-hP]
  rfl
theorem xVi {a b:Int} (h:¬a=b):(a==b)=false:=by simp[h]
end Go.Eng
namespace Go.Eng
open Go Go.Proofs
variable {G:Nat->Option (List D)}
def loI (n:Int):Bool:=decide (97<=n)&&decide (n<=122)
def upI (n:Int):Bool:=decide (65<=n)&&decide (n<=90)
def dgI (n:Int):Bool:=decide (48<=n)&&decide (n<=57)
def nmI (n:Int):Bool:=(loI n||dgI n)||n==95
def nmB (b:UInt8):Bool:=nmI b.toNat
@[go_sem] theorem xPx :xB Tryz.prog 2=false:=by kernel_rfl
@[go_sem] theorem xPw :xB Tryz.prog 3=false:=by kernel_rfl
@[go_sem] theorem xPv :xB Tryz.prog 5=false:=by kernel_rfl
@[go_sem] theorem xPu :xB Tryz.prog 9=false:=by kernel_rfl
@[go_sem] theorem xBm :xB Tryz.prog 246=true:=by kernel_rfl
@[go_sem] theorem xBl :xB Tryz.prog 248=false:=by kernel_rfl
@[go_sem] theorem xBk :xB Tryz.prog 256=false:=by kernel_rfl
@[go_sem] theorem xPt :wA Tryz.prog 2=false:=by kernel_rfl
@[go_sem] theorem xPs :wA Tryz.prog 3=false:=by kernel_rfl
@[go_sem] theorem xPr :wA Tryz.prog 5=false:=by kernel_rfl
@[go_sem] theorem xBj :wA Tryz.prog 246=false:=by kernel_rfl
@[go_sem] theorem xBi :wA Tryz.prog 248=false:=by kernel_rfl
@[go_sem] theorem xBh :wA Tryz.prog 256=false:=by kernel_rfl
def yBo (b:UInt8):UInt8:=bif upI b.toNat then b+32 else b
def yBa (b:UInt8):UInt8:=bif loI b.toNat then b-32 else b
end Go.Eng
namespace Go.Eng
open Go Go.Proofs
open Nat renaming reduceAdd → ra, reduceMul → rb, reduceSub → rc
set_option maxRecDepth 20000
set_option maxHeartbeats 32000000
attribute [local irreducible] wpI xU
variable {G:Nat->Option (List D)}
def kwL :List (List UInt8):=[[65,78,68],[65,83],[65,83,67],[66,69,71,73,78],[66,69,84,87,69,69,78],[66,89],[67,72,69,67,75],[67,79,77,77,73,84],[67,79,85,78,84],[67,82,69,65,84,69],[68,69,76,69,84,69],[68,69,83,67],[70,79,82,69,73,71,78],[70,82,79,77],[71,82,79,85,80],[73,78],[73,78,83,69,82,84],[73,78,84,69,71,69,82],[73,78,84,79],[73,83],[74,79,73,78],[75,69,89],[76,69,78,71,84,72],[76,73,75,69],[76,73,77,73,84],[77,65,88],[77,73,78],[78,79,84],[78,85,76,76],[79,78],[79,82],[79,82,68,69,82],[80,82,73,77,65,82,89],[82,69,70,69,82,69,78,67,69,83],[82,69,76,69,65,83,69],[82,79,76,76,66,65,67,75],[83,65,86,69,80,79,73,78,84],[83,69,76,69,67,84],[83,69,84],[83,85,77],[84,65,66,76,69],[84,69,88,84],[84,79],[85,78,73,81,85,69],[85,80,68,65,84,69],[86,65,76,85,69,83],[87,72,69,82,69]]
end Go.Eng
