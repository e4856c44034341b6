import Derived.Test.YtlimlmjljjmcpaaGreatDoorLxA
import Derived.Lib.ItoaNum
import Derived.Lib.Join
import Derived.Test.YtlimlmjljjmcpaaGreatDoorPsA
import Derived.Test.YtlimlmjljjmcpaaGreatDoorGrA
set_option maxHeartbeats 8000000
set_option maxRecDepth 100000
namespace Go.Proofs.YtlimlmjljjmcpaaGreatDoor.Px
open Go Go.RowKit
set_option linter.unusedVariables false
set_option linter.unusedSimpArgs false
abbrev S:=List UInt8
inductive X where
 |mk (op int vk vi:Int) (vs nm:S) (args:List X)
def X.op:X->Int|.mk o _ _ _ _ _ _=>o
def X.vk:X->Int|.mk _ _ k _ _ _ _=>k
def X.vi:X->Int|.mk _ _ _ i _ _ _=>i
def X.nm:X->S|.mk _ _ _ _ _ n _=>n
def X.args:X->List X|.mk _ _ _ _ _ _ l=>l
mutual
def nodes:X->Nat
 |.mk _ _ _ _ _ _ l=>j_ l+1
def j_:List X->Nat
 |[]=>0
 |x::l=>nodes x+j_ l
end
mutual
def dep:X->Nat
 |.mk _ _ _ _ _ _ l=>a3g l+1
def a3g:List X->Nat
 |[]=>0
 |x::l=>max (dep x) (a3g l)
end
def W_(op:Int):S:=
 if op=5 then[65,78,68] else
 if op=6 then[79,82] else
 if op=7 then[61] else
 if op=8 then[60,62] else
 if op=9 then[60] else
 if op=10 then[60,61] else
 if op=11 then[62] else
 if op=12 then[62,61] else
 if op=13 then[43] else
 if op=14 then[45] else
 if op=15 then[42] else
 if op=16 then[47] else
 if op=17 then[37] else
 if op=19 then[124,124] else
 if op=20 then[76,69,78,71,84,72] else
 if op=22 then[73,70] else
 if op=23 then[67,79,65,76,69,83,67,69] else
 []
def a0u(n:Int):S:=
 if n=0 then[86,65,76,73,68,70,82,79,77] else
 if n=1 then[86,65,76,73,68,84,79] else
 if n=2 then[83,89,83,84,69,77,70,82,79,77] else
 if n=3 then[83,89,83,84,69,77,84,79] else
 if n=4 then[84,88] else
 []
def a0k(n:Int):S:=
 if n=0 then[66,69,70,79,82,69] else
 if n=1 then[77,69,69,84,83] else
 if n=2 then[79,86,69,82,76,65,80,83] else
 if n=3 then[83,84,65,82,84,83] else
 if n=4 then[68,85,82,73,78,71] else
 if n=5 then[70,73,78,73,83,72,69,83] else
 if n=6 then[69,81,85,65,76,83] else
 if n=7 then[70,73,78,73,83,72,69,68,66,89] else
 if n=8 then[67,79,78,84,65,73,78,83] else
 if n=9 then[83,84,65,82,84,69,68,66,89] else
 if n=10 then[79,86,69,82,76,65,80,80,69,68,66,89] else
 if n=11 then[77,69,84,66,89] else
 if n=12 then[65,70,84,69,82] else
 []
def a4o:Int:=1125899906842624
def G_(vk vi:Int)(vs:S):Bool:=
 if vk=0 then decide (vi=0)&&vs.isEmpty else
 if vk=1 then vs.isEmpty&&(decide (-a4o<=vi)&&decide (vi<=a4o)) else
 if vk=2 then decide (vi=0)&&(decide (vs.length<=200)&&vs.all (fun c=>!a7n c.toNat)) else
 if vk=3 then vs.isEmpty&&(decide (vi=0) || decide (vi=1)) else false
def a6K(n:Int):S:=Lib.itoa n
def a2k(vk vi:Int)(vs:S):S:=
 if G_ vk vi vs then
  if vk=1 then a6K vi else
  if vk=2 then a7u vs else
  if vk=3 then(if vi=1 then[84,82,85,69] else[70,65,76,83,69]) else[78,85,76,76]
 else[]
def x_(vk vi:Int)(vs:S):Bool:=decide (vk=0)&&(decide (vi=0)&&vs.isEmpty)
def number(x:X):Bool:=decide (x.op=1)&&decide (x.vk=1)
def R_(op vk vi:Int):Int:=
 if op=6 then 1 else if op=5 then 2 else if op=4 then 3 else
 if op=7\/op=8\/op=9\/op=10\/op=11\/op=12\/op=21\/op=25 then 4 else
 if op=13\/op=14\/op=19 then 5 else if op=15\/op=16\/op=17 then 6 else if op=18 then 7 else
 if op=1/\vk=1/\vi<0 then 7 else 8
def level(x:X):Int:=R_ x.op x.vk x.vi
def a0D(op:Int)(n:Nat):Bool:=
 if op=1\/op=3\/op=26 then decide (n=0) else
 if op=4\/op=18\/op=20\/op=21 then decide (n=1) else
 if op=6\/op=5 then decide (2<=n) else
 if op=22 then decide (n=3) else
 if op=23 then decide (1<=n) else
 if op=7\/op=8\/op=9\/op=10\/op=11\/op=12\/op=13\/op=14\/op=19\/op=15\/op=16\/op=17\/op=25 then decide (n=2) else false
def V_(s:S):S:=s.takeWhile (fun c=>c != 46)
def a0h(s:S):Bool:=s.contains 46
def a2q(s:S):S:=s.drop ((V_ s).length+1)
def a2v(s:S):Bool:=if a0h s then nameB (V_ s)&&nameB (a2q s) else nameB s
def a0o(op int vk vi:Int)(vs nm:S):Bool:=
 if op=1 then G_ vk vi vs&&(decide (int=0)&&nm.isEmpty) else
 if op=3 then a2v nm&&(decide (int=0)&&x_ vk vi vs) else
 if op=26 then(nameB nm && !(a0u int).isEmpty)&&x_ vk vi vs else
 if op=25 then !(a0k int).isEmpty&&(nm.isEmpty&&x_ vk vi vs) else
 decide (int=0)&&(nm.isEmpty&&x_ vk vi vs)
mutual
def pOk:X->Bool
 |.mk op int vk vi vs nm l=>a0D op l.length&&(a5G (decide (op=25)) l&&a0o op int vk vi vs nm)
def a5G(r:Bool):List X->Bool
 |[]=>true
 |x::l=>(pOk x && !(r&&(!decide (x.op=3) || !nameB x.nm)))&&a5G r l
end
def a0W(x:X):Bool:=decide (x.op=3) && !a0h x.nm
def arity(op:Int):Int × Int:=
 if op=1\/op=2 then(0,0) else if op=4\/op=18\/op=20\/op=21 then(1,1) else if op=5\/op=6 then(2,1099511627776) else
 if op=7\/op=8\/op=9\/op=10\/op=11\/op=12\/op=13\/op=14\/op=15\/op=16\/op=17\/op=19 then(2,2) else
 if op=22 then(3,3) else if op=23 then(1,1099511627776) else if op=24 then(4,4) else(-1,0)
def a2w(op int vk vi:Int)(vs nm:S)(n:Nat):Bool:=
 (!decide ((arity op).1<0)&&(!decide ((n:Int)<(arity op).1)&&(!decide ((arity op).2<(n:Int))&&nm.isEmpty))) &&
 (if op=1 then decide (int=0)&&G_ vk vi vs else decide (int=0)&&x_ vk vi vs)
def ownB(op int vk vi:Int)(vs nm:S)(l:List X):Bool:=
 if op=3 then decide (int=0)&&(x_ vk vi vs&&(decide (l.length=0)&&a2v nm)) else
 if op=25 then decide (0<=int)&&(decide (int<13)&&(x_ vk vi vs&&(nm.isEmpty&&(decide (l.length=2)&&l.all a0W)))) else
 if op=26 then decide (0<=int)&&(decide (int<5)&&(x_ vk vi vs&&(decide (l.length=0)&&nameB nm))) else
 if op=2\/op=24 then false else a2w op int vk vi vs nm l.length
mutual
def rOk:X->Bool
 |.mk op int vk vi vs nm l=>ownB op int vk vi vs nm l&&b0i l
def b0i:List X->Bool
 |[]=>true
 |x::l=>rOk x&&b0i l
end
def paren(b:Bool)(s:S):S:=if b then 40::(s++[41]) else s
def a6i(n:Int):Int:=if n=1\/n=2\/n=4 then n+1 else n
def chain(sg:S):List S->List S->S
 |a::_,_::bs=>Lib.join (a::bs) (32::(sg++[32]))
 |_,_=>[]
def b6d(op int vk vi:Int)(vs nm:S)(l:List X)(o:Int->List S):S:=
 if op=1 then a2k vk vi vs else
 if op=3 then nm else
 if op=26 then a0u int++40::(nm++[41]) else
 if op=25 then((l.head?.map X.nm).getD [])++32::(a0k int++32::(((l.drop 1).head?.map X.nm).getD [])) else
 if op=21 then(o 5).headD []++[32,73,83,32,78,85,76,76] else
 if op=4 then[78,79,84,32]++(o 3).headD [] else
 if op=18 then(if(l.head?.map number).getD false then[45,40]++((o 0).headD []++[41]) else 45::(o 8).headD []) else
 if op=20\/op=22\/op=23 then W_ op++40::(Lib.join (o 0) [44,32]++[41]) else
 chain (W_ op) (o (a6i (R_ op vk vi))) (o (R_ op vk vi+1))
mutual
def txt:X->S
 |.mk op int vk vi vs nm l=>b6d op int vk vi vs nm l fun n=>P_ n l
def P_(least:Int):List X->List S
 |[]=>[]
 |x::l=>paren (decide (level x<least)) (txt x)::P_ least l
end
def opd(least:Int)(x:X):S:=paren (decide (level x<least)) (txt x)
theorem a4l(least:Int)(l:List X):P_ least l=l.map (opd least):=by
 induction l with
 |nil=>rfl
 |cons x l ih=>rw[P_,ih];rfl
theorem b7j(x:X):1<=level x:=by
 unfold level R_
 repeat' split
 all_goals omega
theorem a1M(x:X):opd 0 x=txt x:=by
 unfold opd paren
 have:=b7j x
 rw[decide_eq_false (by omega)]
 rfl
theorem a6t{r:Bool}:∀ {l:List X},a5G r l=l.all (fun x=>pOk x && !(r&&(!decide (x.op=3) || !nameB x.nm)))
 |[]=>rfl
 |x::l=>by rw[a5G,List.all_cons,a6t]
theorem a6J:∀ {l:List X},b0i l=l.all rOk
 |[]=>rfl
 |x::l=>by rw[b0i,List.all_cons,a6J]
theorem M_{x:X}:∀ {l:List X},x∈l->nodes x<=j_ l
 |y::l,h=>by
  rw[j_]
  rcases List.mem_cons.1 h with rfl|h
  ·omega
  ·have:=M_ h
   omega
theorem U_(x:X):1<=nodes x:=by cases x;rw[nodes];omega
theorem a0B:∀(l:List X),l.length<=j_ l
 |[]=>by simp
 |x::l=>by
  have:=a0B l
  have:=U_ x
  rw[j_,List.length_cons]
  omega
theorem b5T{s:S}(h:nameB s=true):a0h s=false:=by
 cases hd:a0h s with
 |false=>rfl
 |true=>
  unfold a0h at hd
  have hm:(46:UInt8)∈s:=by simpa using hd
  rw[a4e hm (by decide)] at h
  cases h
theorem b3t(n:Int):(!(a0u n).isEmpty)=(decide (0<=n)&&decide (n<5)):=by
 unfold a0u
 repeat' split
 all_goals(first|(subst_vars;rfl)|skip)
 rw[show(decide (0<=n)&&decide (n<5))=decide (0<=n/\n<5) from(Bool.decide_and ..).symm,decide_eq_false (by omega)]
 rfl
theorem c2p(n:Int):(!(a0k n).isEmpty)=(decide (0<=n)&&decide (n<13)):=by
 by_cases h:0<=n/\n<13
 ·obtain⟨m,rfl⟩:=Int.eq_ofNat_of_zero_le h.1
  have hm:m<13:=by omega
  have key:∀m:Nat,m<13->(!(a0k (m:Int)).isEmpty)=(decide (0<=(m:Int))&&decide ((m:Int)<13)):=by decide +kernel
  exact key m hm
 ·have e:a0k n=[]:=by
   unfold a0k
   repeat rw[if_neg (by omega)]
  rw[e,show(decide (0<=n)&&decide (n<13))=decide (0<=n/\n<13) from(Bool.decide_and ..).symm,decide_eq_false h]
  rfl
theorem b5X(op:Int)(n:Nat)(hn:n<=1099511627776)(h3:op ≠ 3)(h25:op ≠ 25)(h26:op ≠ 26)(h2:op ≠ 2)(h24:op ≠ 24):a0D op n=(!decide ((arity op).1<0)&&(!decide ((n:Int)<(arity op).1) && !decide ((arity op).2<(n:Int)))):=by
 unfold a0D arity
 rw[Bool.eq_iff_iff]
 repeat' split
 all_goals(simp;try omega)
theorem b9R{x:X}(h:pOk x=rOk x):(pOk x && !(true&&(!decide (x.op=3) || !nameB x.nm)))=(a0W x&&rOk x):=by
 rw[h]
 rw[Bool.eq_iff_iff]
 unfold a0W
 simp only[Bool.true_and,Bool.and_eq_true,Bool.not_eq_true',Bool.or_eq_false_iff,Bool.not_eq_false',decide_eq_true_eq]
 constructor
 ·rintro⟨h1,h2,h3⟩
  exact⟨⟨h2,b5T h3⟩,h1⟩
 ·rintro⟨⟨h2,h3⟩,h1⟩
  refine⟨h1,h2,?_⟩
  obtain⟨op,int,vk,vi,vs,nm,l⟩:=x
  have h2':op=3:=h2
  have h3':a0h nm=false:=h3
  subst h2'
  rw[rOk] at h1
  unfold ownB a2v at h1
  rw[h3'] at h1
  simp at h1
  exact h1.1.2.2.2
theorem ok_eq:∀(N:Nat) (x:X),nodes x<=N->N<=1000000->pOk x=rOk x
 |0,x,h,_=>absurd (U_ x) (by omega)
 |N+1,.mk op int vk vi vs nm l,h,hN=>by
  rw[nodes] at h
  have hl:=a0B l
  have ih:∀x∈l,pOk x=rOk x:=fun x hx=>ok_eq N x (by have:=M_ hx;omega) (by omega)
  rw[pOk,rOk,a6t,a6J]
  by_cases h25:op=25
  ·subst h25
   have e1:(l.all fun x=>pOk x && !(decide ((25:Int)=25)&&(!decide (x.op=3) || !nameB x.nm)))=(l.all a0W&&l.all rOk):=by
    clear h hl
    induction l with
    |nil=>rfl
    |cons x l ihl=>
     rw[List.all_cons,List.all_cons,List.all_cons,ihl (fun y hy=>ih y (List.mem_cons_of_mem _ hy))]
     have:=b9R (ih x (List.mem_cons_self ..))
     rw[show decide ((25:Int)=25)=true from rfl,this]
     cases a0W x<;>cases rOk x<;>cases l.all a0W<;>cases l.all rOk<;>rfl
   rw[e1]
   have e2:a0o 25 int vk vi vs nm=(!(a0k int).isEmpty&&(nm.isEmpty&&x_ vk vi vs)):=rfl
   have e3:a0D 25 l.length=decide (l.length=2):=rfl
   have e4:ownB 25 int vk vi vs nm l=(decide (0<=int)&&(decide (int<13)&&(x_ vk vi vs&&(nm.isEmpty&&(decide (l.length=2)&&l.all a0W))))):=rfl
   rw[e2,e3,e4,c2p]
   cases decide (0<=int)<;>cases decide (int<13)<;>cases x_ vk vi vs<;>cases nm.isEmpty<;>cases decide (l.length=2)<;>cases l.all a0W<;>cases l.all rOk<;>rfl
  ·have e1:(l.all fun x=>pOk x && !(decide (op=25)&&(!decide (x.op=3) || !nameB x.nm)))=l.all rOk:=by
    rw[Bool.eq_iff_iff,List.all_eq_true,List.all_eq_true]
    refine forall_congr' fun x=>forall_congr' fun hx=>?_
    rw[decide_eq_false h25,Bool.false_and,Bool.not_false,Bool.and_true,ih x hx]
   rw[e1]
   have key:(a0D op l.length&&a0o op int vk vi vs nm)=ownB op int vk vi vs nm l:=by
    unfold ownB
    by_cases h3:op=3
    ·subst h3
     rw[if_pos rfl]
     have e3:a0D 3 l.length=decide (l.length=0):=rfl
     have e2:a0o 3 int vk vi vs nm=(a2v nm&&(decide (int=0)&&x_ vk vi vs)):=rfl
     rw[e2,e3]
     cases decide (l.length=0)<;>cases a2v nm<;>cases decide (int=0)<;>cases x_ vk vi vs<;>rfl
    ·rw[if_neg h3,if_neg h25]
     by_cases h26:op=26
     ·subst h26
      rw[if_pos rfl]
      have e3:a0D 26 l.length=decide (l.length=0):=rfl
      have e2:a0o 26 int vk vi vs nm=((nameB nm && !(a0u int).isEmpty)&&x_ vk vi vs):=rfl
      rw[e2,e3,b3t]
      cases decide (l.length=0)<;>cases nameB nm<;>cases decide (0<=int)<;>cases decide (int<5)<;>cases x_ vk vi vs<;>rfl
     ·rw[if_neg h26]
      by_cases h2:op=2\/op=24
      ·rw[if_pos h2]
       have e3:a0D op l.length=false:=by rcases h2 with rfl|rfl<;>rfl
       rw[e3]
       rfl
      ·rw[if_neg h2]
       unfold a2w
       rw[b5X op l.length (by omega) h3 h25 h26 (fun e=>h2 (.inl e)) (fun e=>h2 (.inr e))]
       by_cases h1:op=1
       ·subst h1
        have e2:a0o 1 int vk vi vs nm=(G_ vk vi vs&&(decide (int=0)&&nm.isEmpty)):=rfl
        rw[e2,if_pos rfl]
        generalize decide ((arity 1).1<0)=a
        generalize decide ((l.length:Int)<(arity 1).1)=b
        generalize decide ((arity 1).2<(l.length:Int))=c
        cases a<;>cases b<;>cases c<;>cases nm.isEmpty<;>cases decide (int=0)<;>cases G_ vk vi vs<;>rfl
       ·rw[if_neg h1]
        have e2:a0o op int vk vi vs nm=(decide (int=0)&&(nm.isEmpty&&x_ vk vi vs)):=by
         unfold a0o
         rw[if_neg h1,if_neg h3,if_neg h26,if_neg h25]
        rw[e2]
        generalize decide ((arity op).1<0)=a
        generalize decide ((l.length:Int)<(arity op).1)=b
        generalize decide ((arity op).2<(l.length:Int))=c
        cases a<;>cases b<;>cases c<;>cases nm.isEmpty<;>cases decide (int=0)<;>cases x_ vk vi vs<;>rfl
   rw[<-key]
   cases a0D op l.length<;>cases a0o op int vk vi vs nm<;>cases l.all rOk<;>rfl
end Go.Proofs.YtlimlmjljjmcpaaGreatDoor.Px
namespace Go.Proofs.YtlimlmjljjmcpaaGreatDoor.Px
open Go Go.RowKit Go.Proofs.YtlimlmjljjmcpaaGreatDoor.Ps
set_option linter.unusedVariables false
set_option linter.unusedSimpArgs false
def S_(s:S):Value:=.string ⟨s.toArray⟩
mutual
def toC:X->C
 |.mk op int vk vi vs nm l=>.a [.l (.int .i64 op),.l (.int .i64 int),.a [.l (.int .i64 vk),.l (.int .i64 vi),.l (S_ vs)],.l (S_ nm),.s (a1Q l)]
def a1Q:List X->List C
 |[]=>[]
 |x::l=>toC x::a1Q l
end
theorem a0l:∀l:List X,a1Q l=l.map toC
 |[]=>rfl
 |x::l=>by rw[a1Q,List.map_cons,a0l l]
def XR(w:World)(x:X)(cs:List Value):Prop:=Rp Tryz.prog w 26 cs (toC x)
def XL(w:World)(l:List X)(v:Value):Prop:=Rp Tryz.prog w 24 [v] (.s (a1Q l))
theorem a4h(s:ByteArray):(.string s:Value)=S_ s.data.toList:=by
 unfold S_
 cases s
 simp
theorem c2J:∀(N:Nat) (w:World) (cs:List Value) (c:C),SizeOf.sizeOf c<=N->Rp Tryz.prog w 26 cs c -> ∃x,c=toC x
 |0,w,cs,c,hc,_=>by cases c<;>simp at hc
 |N+1,w,cs,c,hc,h=>by
  obtain⟨op,int,k0,k1,k2,nm,q,n,m,xs,rfl,rfl,_,_,hl,hr⟩:=a0Q h
  have each:∀i,∃x:X,∀hi:i<xs.length,xs[i]=toC x:=fun i=>by
   by_cases hi:i<xs.length
   ·obtain⟨_,_,_,ys,e1,e2,_,_,_,hx⟩:=hr.I_ Tryz.underlying24
    cases e2
    obtain⟨_,us,_,_,hu⟩:=hx i hi
    obtain⟨x,hx⟩:=c2J N w us xs[i] (by
     have:=List.sizeOf_lt_of_mem (List.getElem_mem hi)
     simp at hc
     omega) hu
    exact⟨x,fun _=>hx⟩
   ·exact⟨.mk 0 0 0 0 [] [] [],fun hh=>absurd hh hi⟩
  let f:=fun i=>Classical.choose (each i)
  refine⟨.mk op int k0 k1 k2.data.toList nm.data.toList ((List.range xs.length).map f),?_⟩
  have hxs:a1Q ((List.range xs.length).map f)=xs:=by
   rw[a0l]
   refine List.ext_getElem (by simp) fun i h1 h2=>?_
   simp only[List.getElem_map,List.getElem_range]
   exact(Classical.choose_spec (each i) h2).symm
  rw[toC,<-a4h,<-a4h,hxs]
theorem XR.cells{w:World}{op int vk vi:Int}{vs nm:S}{l:List X}{cs:List Value}(h:XR w (.mk op int vk vi vs nm l) cs):∃a m,cs=[.int .i64 op,.int .i64 int,.int .i64 vk,.int .i64 vi,S_ vs,S_ nm,.slice a l.length m]/\XL w l (.slice a l.length m)/\vs.length<=maxLen/\nm.length<=maxLen:=by
 unfold XR at h
 rw[toC] at h
 obtain⟨op',int',k0,k1,k2,nm',q,n,m,xs,rfl,e,hs2,hs3,hl,hr⟩:=a0Q h
 injection e with e
 injection e with e0 e
 injection e with e1 e
 injection e with e2 e
 injection e with e3 e
 injection e with e4 _
 injection e0 with e0
 injection e0 with _ e0
 injection e1 with e1
 injection e1 with _ e1
 injection e2 with e2
 injection e2 with e20 e2
 injection e2 with e21 e2
 injection e2 with e22 _
 injection e20 with e20
 injection e20 with _ e20
 injection e21 with e21
 injection e21 with _ e21
 injection e22 with e22
 injection e3 with e3
 injection e4 with e4
 subst e0 e1 e20 e21
 have hn:n=l.length:=by
  rw[<-hl,<-e4,a0l]
  simp
 subst hn
 have j2:k2=⟨vs.toArray⟩:=by unfold S_ at e22;injection e22 with e22;exact e22.symm
 have j3:nm'=⟨nm.toArray⟩:=by unfold S_ at e3;injection e3 with e3;exact e3.symm
 subst j2 j3
 refine⟨q,m,rfl,?_,by simpa[ByteArray.size] using hs2,by simpa[ByteArray.size] using hs3⟩
 unfold XL
 rw[e4]
 exact hr
theorem XR.kept{n:Nat}{w w':World}{x:X}{cs:List Value}(h:XR w x cs)(hb:Below n w w')(hn:w.heap.size<=n):XR w' x cs:=Rp.kept hb hn h
theorem XL.kept{n:Nat}{w w':World}{l:List X}{v:Value}(h:XL w l v)(hb:Below n w w')(hn:w.heap.size<=n):XL w' l v:=Rp.kept hb hn h
theorem a0i{w:World}{t e:TypeId}{a:Option Addr}{n m k z:Nat}{xs:List C}(hu:Tryz.prog.underlying t=some (.slice e))(hz:Tryz.prog.cellsOf e=z)(hz0:0<z)(h:Rp Tryz.prog w t [.slice a n m] (.s xs))(hk:k<n) :
  ∃b o us,a=some ⟨b,o,none⟩/\b<w.heap.size/\us.length=z/\(∀j u,us[j]? = some u->w.cell? ⟨b,o+k*z+j,none⟩=some u) /\ ∃hx:k<xs.length,Rp Tryz.prog w e us xs[k]:=by
 obtain⟨a',n',m',xs',e1,e2,e3,_,_,hx⟩:=h.I_ hu
 cases e1
 cases e2
 obtain⟨q,us,h1,h2,h3⟩:=hx k (by omega)
 obtain⟨q0,us0,k1,k2,_⟩:=hx 0 (by omega)
 rw[h1] at k1
 cases k1
 rw[hz] at h2 k2
 obtain⟨_,l2,l3⟩:=World.cells?_some h2
 obtain⟨_,m2,m3⟩:=World.cells?_some k2
 have hblk:=World.cells?_block h2 hz0
 obtain⟨b,o,s⟩:=q
 have hs:s=none:=by
  have h0:=m3 0 hz0
  rw[List.getElem?_eq_getElem (by omega),Nat.zero_mul] at h0
  cases s with
  |none=>rfl
  |some r=>
   exfalso
   have e0:((⟨b,o,some r⟩:Addr).add 0).add 0=⟨b,o,some r⟩:=by simp[Addr.add]
   rw[e0] at h0
   unfold World.cell? at h0
   split at h0
   ·simp at h0
   ·cases h0
 subst hs
 rw[add_block] at hblk
 refine⟨b,o,us,h1,hblk,l2,fun j u hj=>?_,by omega,h3⟩
 have hj':=(List.getElem?_eq_some_iff.1 hj).1
 have:=l3 j (by omega)
 rw[hj,Addr.add_lit,Addr.add_lit] at this
 exact this
theorem XL.at_{w:World}{l:List X}{a:Option Addr}{n m k:Nat}(h:XL w l (.slice a n m))(hk:k<n):∃b o us,a=some ⟨b,o,none⟩/\b<w.heap.size/\(∀j u,us[j]? = some u->w.cell? ⟨b,o+k*7+j,none⟩=some u) /\ ∃hx:k<l.length,XR w l[k] us:=by
 obtain⟨b,o,us,h1,h2,_,h4,hx,h5⟩:=a0i Tryz.underlying24 a0H (by omega) h hk
 have hx':k<l.length:=by rw[a0l] at hx;simpa using hx
 refine⟨b,o,us,h1,h2,h4,hx',?_⟩
 unfold XR
 have:(a1Q l)[k]=toC l[k]:=by simp[a0l]
 rw[<-this]
 exact h5
end Go.Proofs.YtlimlmjljjmcpaaGreatDoor.Px
namespace Go.Proofs.YtlimlmjljjmcpaaGreatDoor.Px
open Go Go.RowKit
set_option linter.unusedVariables false
set_option linter.unusedSimpArgs false
theorem a4i(sg:S):∀bs:List S,Lib.joinTail [32] (bs.flatMap fun b=>[sg,b])=Lib.joinTail (32::(sg++[32])) bs
 |[]=>rfl
 |b::bs=>by
  have ih:=a4i sg bs
  unfold Lib.joinTail at ih |-
  simp only[List.flatMap_cons,List.map_append,List.map_cons,List.map_nil,List.flatten_append,List.flatten_cons,List.flatten_nil,ih]
  simp
theorem b5d(sg a:S)(bs:List S):Lib.join (a::bs.flatMap fun b=>[sg,b]) [32]=Lib.join (a::bs) (32::(sg++[32])):=by
 rw[Lib.join_cons,Lib.join_cons,a4i]
theorem b0Z(b:Bool)(s:S):(paren b s).length<=s.length+2:=by
 unfold paren
 split<;>simp
theorem b4c{b:Bool}{s:S}(h:s ≠ []):paren b s ≠ []:=by
 unfold paren
 split
 ·simp
 ·exact h
theorem a4X(n:Int)(x:X):(opd n x).length<=(txt x).length+2:=b0Z _ _
theorem a3l(n:Int)(l:List X):(P_ n l).length=l.length:=by rw[a4l];simp
theorem lens_cons(a:S)(l:List S):Lib.lens (a::l)=a.length+Lib.lens l:=by simp[Lib.lens]
theorem a3H(n:Int):∀l:List X,(∀x∈l,(txt x).length+100<=600*nodes x)->Lib.lens (P_ n l)+98*l.length<=600*j_ l
 |[],_=>by simp[P_,j_,Lib.lens]
 |x::l,h=>by
  have h1:=a3H n l fun y hy=>h y (List.mem_cons_of_mem _ hy)
  have h2:=h x (List.mem_cons_self ..)
  have h3:=b0Z (decide (level x<n)) (txt x)
  rw[P_,lens_cons,j_,List.length_cons]
  omega
theorem b4M{p:Prop}[Decidable p]{a b:S}{n:Nat}(ha:a.length<=n)(hb:b.length<=n):(if p then a else b).length<=n:=by
 split<;>assumption
theorem a2G(op:Int):(W_ op).length<=8:=by
 unfold W_
 repeat(refine b4M (by decide) ?_)
 decide
theorem a6Y(n:Int):(a0u n).length<=10:=by
 unfold a0u
 repeat(refine b4M (by decide) ?_)
 decide
theorem b2q(n:Int):(a0k n).length<=12:=by
 unfold a0k
 repeat(refine b4M (by decide) ?_)
 decide
theorem a1a{s:S}(h:nameB s=true):s.length<=24/\s ≠ []:=by
 refine⟨Nat.le_of_not_lt fun hl=>?_,fun e=>?_⟩
 ·rw[a4V hl] at h
  cases h
 ·rw[a3Z e] at h
  cases h
theorem c0S{s:S}(h:a2v s=true):s.length<=49/\s ≠ []:=by
 unfold a2v at h
 split at h
 ·rw[Bool.and_eq_true] at h
  have h1:=a1a h.1
  have h2:=a1a h.2
  unfold a2q at h2
  have h3:=h2.1
  rw[List.length_drop] at h3
  refine⟨by omega,fun e=>?_⟩
  subst e
  exact h1.2 rfl
 ·have:=a1a h
  exact⟨by omega,this.2⟩
theorem a2A{n:Nat}(h:n<=1125899906842624):(Lib.decDigits n).length<=17:=by
 have key:∀(k n:Nat),n<10 ^ (k+1)->(Lib.decDigits n).length<=k+1:=by
  intro k
  induction k with
  |zero=>
   intro n h
   rw[Lib.decDigits,dif_pos (by simpa using h)]
   simp
  |succ k ih=>
   intro n h
   rw[Lib.decDigits]
   split
   ·simp
   ·have:=ih (n / 10) (by rw[Nat.pow_succ] at h;omega)
    simp
    omega
 exact key 16 n (by omega)
theorem c0V(n:Nat):Lib.decDigits n ≠ []:=by
 rw[Lib.decDigits]
 split<;>simp
theorem b9Z{vk vi:Int}{vs:S}(h:G_ vk vi vs=true):a2k vk vi vs ≠ []/\(a2k vk vi vs).length<=410:=by
 unfold a2k
 rw[if_pos h]
 unfold G_ at h
 by_cases h0:vk=0
 ·subst h0
  simp
 ·rw[if_neg h0] at h
  by_cases h1:vk=1
  ·subst h1
   rw[if_pos rfl] at h
   simp only[Bool.and_eq_true] at h
   obtain⟨_,h2,h3⟩:=h
   have h2:=of_decide_eq_true h2
   have h3:=of_decide_eq_true h3
   unfold a4o at h2 h3
   rw[if_pos rfl]
   unfold a6K Lib.itoa
   split
   ·have:=a2A (n:=vi.natAbs) (by omega)
    simp
    omega
   ·have:=a2A (n:=vi.toNat) (by omega)
    exact⟨c0V _,by omega⟩
  ·rw[if_neg h1] at h |-
   by_cases h2:vk=2
   ·subst h2
    rw[if_pos rfl] at h
    simp only[Bool.and_eq_true,decide_eq_true_eq] at h
    rw[if_pos rfl]
    have hq:(u_ vs).length<=2*vs.length:=by
     clear h
     induction vs with
     |nil=>simp[u_]
     |cons c l ih=>
      have hq:u_ (c::l)=a1m c++u_ l:=by simp[u_]
      rw[hq,List.length_append]
      have:(a1m c).length<=2:=by unfold a1m;split<;>simp
      simp only[List.length_cons]
      omega
    refine⟨by simp[a7u],?_⟩
    simp only[a7u,List.length_cons,List.length_append,List.length_nil]
    omega
   ·rw[if_neg h2]
    split
    ·split<;>simp
    ·simp
theorem a4U(n:Int)(a:X)(l:List X):(P_ n (a::l)).headD []=opd n a:=rfl
theorem E_{op int vk vi:Int}{vs nm:S}{l:List X}(h:pOk (.mk op int vk vi vs nm l)=true):a0D op l.length=true/\(∀x∈l,pOk x=true)/\a0o op int vk vi vs nm=true/\(op=25 -> ∀x∈l,x.op=3/\nameB x.nm=true):=by
 rw[pOk,Bool.and_eq_true,Bool.and_eq_true,a6t,List.all_eq_true] at h
 refine⟨h.1,fun x hx=>?_,h.2.2,fun h25 x hx=>?_⟩
 ·have:=h.2.1 x hx
  rw[Bool.and_eq_true] at this
  exact this.1
 ·have:=h.2.1 x hx
  rw[Bool.and_eq_true,decide_eq_true h25] at this
  have h2:=this.2
  simp at h2
  exact h2
theorem a2b{l:List X}(h:l.length=1):∃a,l=[a]:=by
 match l,h with
 |[a],_=>exact⟨a,rfl⟩
theorem a5W{l:List X}(h:2<=l.length):∃a b r,l=a::b::r:=by
 match l,h with
 |a::b::r,_=>exact⟨a,b,r,rfl⟩
theorem a0m(op int vk vi:Int)(vs nm:S)(l:List X):txt (.mk op int vk vi vs nm l)=b6d op int vk vi vs nm l fun n=>P_ n l:=by rw[txt]
theorem A_:∀(N:Nat) (x:X),nodes x<=N->pOk x=true->txt x ≠ []/\(txt x).length+100<=600*nodes x
 |0,x,h,_=>absurd (U_ x) (by omega)
 |N+1,.mk op int vk vi vs nm l,h,hp=>by
  obtain⟨ha,hl,hr,h25⟩:=E_ hp
  rw[nodes] at h |-
  have ih:∀x∈l,txt x ≠ []/\(txt x).length+100<=600*nodes x:=fun x hx=>A_ N x (by have:=M_ hx;omega) (hl x hx)
  have hlens:=fun n=>a3H n l fun x hx=>(ih x hx).2
  rw[a0m]
  unfold b6d
  by_cases e1:op=1
  ·subst e1
   rw[if_pos rfl]
   have hv:G_ vk vi vs=true:=by
    have:a0o 1 int vk vi vs nm=(G_ vk vi vs&&(decide (int=0)&&nm.isEmpty)):=rfl
    rw[this,Bool.and_eq_true] at hr
    exact hr.1
   have:=b9Z hv
   exact⟨this.1,by omega⟩
  rw[if_neg e1]
  by_cases e3:op=3
  ·subst e3
   rw[if_pos rfl]
   have hv:a2v nm=true:=by
    have:a0o 3 int vk vi vs nm=(a2v nm&&(decide (int=0)&&x_ vk vi vs)):=rfl
    rw[this,Bool.and_eq_true] at hr
    exact hr.1
   have:=c0S hv
   exact⟨this.2,by omega⟩
  rw[if_neg e3]
  by_cases e26:op=26
  ·subst e26
   rw[if_pos rfl]
   have hv:nameB nm=true:=by
    have:a0o 26 int vk vi vs nm=((nameB nm && !(a0u int).isEmpty)&&x_ vk vi vs):=rfl
    rw[this,Bool.and_eq_true,Bool.and_eq_true] at hr
    exact hr.1.1
   have:=a1a hv
   have:=a6Y int
   refine⟨by simp,?_⟩
   simp only[List.length_append,List.length_cons,List.length_nil]
   omega
  rw[if_neg e26]
  by_cases e25:op=25
  ·subst e25
   rw[if_pos rfl]
   have h2:l.length=2:=by
    have:a0D 25 l.length=decide (l.length=2):=rfl
    rw[this] at ha
    exact of_decide_eq_true ha
   obtain⟨a,b,r,rfl⟩:=a5W (by omega:2<=l.length)
   have k1:=a1a (h25 rfl a (by simp)).2
   have k2:=a1a (h25 rfl b (by simp)).2
   have:=b2q int
   refine⟨by simp,?_⟩
   simp only[List.head?_cons,Option.map_some,Option.getD_some,List.drop_succ_cons,List.drop_zero,List.length_append,List.length_cons]
   omega
  rw[if_neg e25]
  by_cases e21:op=21
  ·subst e21
   rw[if_pos rfl]
   obtain⟨a,rfl⟩:=a2b (of_decide_eq_true (show decide (l.length=1)=true from ha))
   have k1:=(ih a (by simp)).2
   have k2:=a4X 5 a
   rw[a4U]
   refine⟨by simp,?_⟩
   simp only[j_,List.length_append,List.length_cons,List.length_nil]
   omega
  rw[if_neg e21]
  by_cases e4:op=4
  ·subst e4
   rw[if_pos rfl]
   obtain⟨a,rfl⟩:=a2b (of_decide_eq_true (show decide (l.length=1)=true from ha))
   have k1:=(ih a (by simp)).2
   have k2:=a4X 3 a
   rw[a4U]
   refine⟨by simp,?_⟩
   simp only[j_,List.length_append,List.length_cons,List.length_nil]
   omega
  rw[if_neg e4]
  by_cases e18:op=18
  ·subst e18
   rw[if_pos rfl]
   obtain⟨a,rfl⟩:=a2b (of_decide_eq_true (show decide (l.length=1)=true from ha))
   have k1:=(ih a (by simp)).2
   have k2:=a4X 8 a
   have k3:=a4X 0 a
   rw[a4U,a4U]
   split
   iterate 2
    ·refine⟨by simp,?_⟩
     simp only[j_,List.length_append,List.length_cons,List.length_nil]
     omega
  rw[if_neg e18]
  have k3:=a2G op
  by_cases e20:op=20\/op=22\/op=23
  ·rw[if_pos e20]
   refine⟨by simp,?_⟩
   have k1:=hlens 0
   simp only[List.length_append,List.length_cons,List.length_nil]
   have k2:(Lib.join (P_ 0 l) [44,32]).length<=Lib.lens (P_ 0 l)+2*l.length:=by
    cases l with
    |nil=>simp[P_,Lib.join_nil]
    |cons a l=>
     rw[P_,Lib.join_length,a3l]
     simp
     omega
   omega
  ·rw[if_neg e20]
   have h2:2<=l.length:=by
    unfold a0D at ha
    repeat' split at ha
    all_goals(try(cases ha))
    all_goals(first|(simp at ha;omega)|(exfalso;omega))
   obtain⟨a,b,r,rfl⟩:=a5W h2
   have k1:=fun n=>a3H n (b::r) fun x hx=>(ih x (List.mem_cons_of_mem _ hx)).2
   have k2:=(ih a (by simp)).2
   have hc:∀f t,chain (W_ op) (P_ f (a::b::r)) (P_ t (a::b::r))=Lib.join (opd f a::P_ t (b::r)) (32::(W_ op++[32])):=fun f t=>rfl
   rw[hc]
   have k4:=k1 (R_ op vk vi+1)
   have k5:=a4X (a6i (R_ op vk vi)) a
   refine⟨?_,?_⟩
   ·intro e
    have:=congrArg List.length e
    rw[Lib.join_length,lens_cons,a3l] at this
    simp at this
   ·rw[Lib.join_length,lens_cons,a3l]
    rw[j_]
    simp only[List.length_append,List.length_cons,List.length_nil] at k4 |-
    have k7:((W_ op).length+(0+1)+1)*(r.length+1)<=10*(r.length+1):=Nat.mul_le_mul_right _ (by omega)
    omega
end Go.Proofs.YtlimlmjljjmcpaaGreatDoor.Px
namespace Go.Proofs.YtlimlmjljjmcpaaGreatDoor.Px
open Go Go.RowKit Go.Proofs.YtlimlmjljjmcpaaGreatDoor.Ps
set_option linter.unusedVariables false
set_option linter.unusedSimpArgs false
def Ret(w:World)(v:Value)(e:Ending)(w':World):Prop:=e=.returned v/\Below w.heap.size w w'
theorem Ret.at_{w w1:World}{v:Value}{F:FuncId}{args:Array Value}(h:Calls Tryz.prog F args w1 (Ret w1 v))(hb:Below w.heap.size w w1):Calls Tryz.prog F args w1 (Ret w v):=
 h.mono fun e w' ⟨h1,h2⟩=>⟨h1,hb.trans (h2.mono hb.size)⟩
theorem Ret.fam{w w1:World}{v:Value}{F:FuncId}{args:Array Value}(h:Calls Tryz.prog F args w1 (Ret w1 v))(hb:Below w.heap.size w w1):Calls Tryz.prog F args w1 (fun e w'=>e=.returned v/\Below w.heap.size w w'):=
 h.mono fun e w' ⟨h1,h2⟩=>⟨h1,hb.trans (h2.mono hb.size)⟩
theorem XR.lits{w:World}{op int vk vi:Int}{vs nm:S}{l:List X}{cs:List Value}(h:XR w (.mk op int vk vi vs nm l) cs) :
  ∃a m,cs=[.int .i64 op,.int .i64 int,.int .i64 vk,.int .i64 vi,.string ⟨vs.toArray⟩,.string ⟨nm.toArray⟩,.slice a l.length m]/\XL w l (.slice a l.length m)/\vs.length<=maxLen/\nm.length<=maxLen/\l.length<=140737488351232:=by
 obtain⟨a,m,e,hl,h1,h2⟩:=h.cells
 refine⟨a,m,e,hl,h1,h2,?_⟩
 have:=(H_ Tryz.underlying24 (by kernel_rfl:Tryz.prog.bytesOf 26=88) (by decide) hl).2
 omega
theorem a7U:∀(l:List X) (k:Nat) (h:k<l.length),j_ (l.take (k+1))=j_ (l.take k)+nodes l[k]
 |x::l,0,_=>by simp[j_]
 |x::l,k+1,h=>by
  have:=a7U l k (by simpa using h)
  simp only[List.take_succ_cons,j_,List.getElem_cons_succ]
  omega
theorem a7d:∀(l:List X) (k:Nat),j_ (l.take k)<=j_ l
 |[],k=>by simp
 |x::l,0=>by simp[j_]
 |x::l,k+1=>by
  have:=a7d l k
  simp only[List.take_succ_cons,j_]
  omega
theorem a7h:∀(l:List X) (k:Nat) (h:k<l.length),a3g (l.take (k+1))=max (a3g (l.take k)) (dep l[k])
 |x::l,0,_=>by simp[a3g]
 |x::l,k+1,h=>by
  have:=a7h l k (by simpa using h)
  simp only[List.take_succ_cons,a3g,List.getElem_cons_succ]
  omega
mutual
theorem c2h:∀x:X,dep x<=nodes x
 |.mk _ _ _ _ _ _ l=>by
  have:=b1Q l
  rw[dep,nodes]
  omega
theorem b1Q:∀l:List X,a3g l<=j_ l
 |[]=>by simp[a3g]
 |x::l=>by
  have:=c2h x
  have:=b1Q l
  rw[a3g,j_]
  omega
end
theorem b2z:∀(l:List X) (k:Nat),a3g (l.take k)<=j_ l:=fun l k=>Nat.le_trans (b1Q _) (a7d l k)
structure Lp(w:World)(l:List X)(f:Nat->Nat)(n i:Value)(wr:World):Prop where
 ex:∃k:Nat,k<=l.length/\i=.int .i64 (k:Int)/\n=.int .i64 (f k:Int)
 bel:Below w.heap.size w wr
theorem a9P:∀(N:Nat) (x:X) (cs:List Value) (w:World),nodes x<=N->N<=1152921504606846976->XR w x cs->Calls Tryz.prog 8 #[.agg cs.toArray] w (Ret w (.int .i64 (nodes x:Int)))
 |0,x,_,_,h,_,_=>absurd (U_ x) (by omega)
 |N+1,.mk op int vk vi vs nm l,cs,w,hn,hN,h=>by
  have HI:=h_ fun x cs w h1 h2=>a9P N x cs w h1 (by omega) h2
  rw[nodes] at hn |-
  obtain⟨a,m,rfl,hl,_,_,hlen⟩:=h.lits
  have HL:=h_ hl
  clear h hl
  go_enter Tryz.func8,Tryz.ntmps8
  go_upto_region 1 with(fail)
  refine nA fun w1 hB hw1 hz1=>?_
  have HW:=h_ hw1
  have HBk:=h_ hB
  have p6:=hB.cell 6 rfl
  clear hB hw1
  go_wp2_with fail
  clear p6
  go_loopw [3,4] (fun n i wr=>Lp w1 l (fun k=>j_ (l.take k)+1) n i wr) (fun _ i _=>l.length - (intOf i).toNat)
  case atStart=>exact⟨⟨0,Nat.zero_le _,rfl,by simp[j_]⟩,Below.refl _ _⟩
  case round=>
   obtain⟨⟨k,hk,rfl,rfl⟩,hb⟩:=hrel
   have p6:=(HBk.out.below hb).cell 6 rfl
   by_cases hlt:k<l.length
   ·have hwb:=HW.out.trans (hb.mono HW.out.size)
    obtain⟨g,o,us,eq,hgl,hcell,hkx,hrx⟩:=HL.out.at_ hlt
    subst eq
    have HX:=h_ hrx
    obtain⟨eop,eint,evk,evi,evs,enm,el,ee⟩:∃eop eint evk evi evs enm el,l[k]=X.mk eop eint evk evi evs enm el:=by
     cases l[k]
     exact⟨_,_,_,_,_,_,_,rfl⟩
    rw[ee] at hrx
    obtain⟨ea,em,rfl,_⟩:=hrx.lits
    have rr:∀j (u:Value),([.int .i64 eop,.int .i64 eint,.int .i64 evk,.int .i64 evi,.string ⟨evs.toArray⟩,.string ⟨enm.toArray⟩,.slice ea el.length em]:List Value)[j]? = some u->wr.cell? ⟨g,o+k*7+j,none⟩=some u:=fun j u hu=>(hwb.cell (by exact hgl)).trans (hcell j u hu)
    have r0:=rr 0 _ rfl
    have r1:=rr 1 _ rfl
    have r2:=rr 2 _ rfl
    have r3:=rr 3 _ rfl
    have r4:=rr 4 _ rfl
    have r5:=rr 5 _ rfl
    have r6:=rr 6 _ rfl
    simp only[Nat.add_zero] at r0
    have EE:=h_ ee
    have c2:(k:Int)<(l.length:Int):=by omega
    have c3:(0:Int)<=(k:Int):=by omega
    have d1:decide ((k:Int)<(l.length:Int))=true:=decide_eq_true c2
    have gl:g<wr.heap.size:=by have:=hwb.size;omega
    have HWB:=h_ hwb
    clear rr hcell hrx ee
    have hs:=a7U l k hlt
    have hle:=a7d l (k+1)
    have HB:=h_ hb
    clear hb hwb
    go_wp2_with fail
    refine(HI.out l[k] _ _ (by omega) (HX.out.kept HWB.out (Nat.le_refl _))).mono ?_
    rintro e' w4 ⟨rfl,hw4⟩
    have HB4:=t_ HB hw4
    have HS:=h_ hs
    have hv:j_ (l.take k)+1+nodes l[k]<=1152921504606846976:=by omega
    generalize nodes l[k]=M at hv HS
    clear hw4 HB HWB r0 r1 r2 r3 r4 r5 r6 p6 hs
    go_wp2_with fail
    go_roundw
    case rel=>exact⟨⟨k+1,by omega,by go_num,congrArg (fun z=>Value.int .i64 z) (by rw[HS.out];omega)⟩,HB4.out⟩
    case measure=>simp[intOf];omega
   ·obtain rfl:k=l.length:=by omega
    have d1:decide ((l.length:Int)<(l.length:Int))=false:=decide_eq_false (by omega)
    have HB:=t_ HW hb
    have HT:Hid (j_ (l.take l.length)=j_ l):=h_ (by rw[List.take_length])
    clear hb
    go_wp2_with fail
    go_ret
    exact⟨by rw[<-HT.out];rfl,HB.out⟩
theorem a4f:∀(N:Nat) (x:X) (cs:List Value) (w:World),nodes x<=N->N<=1152921504606846976->XR w x cs->Calls Tryz.prog 72 #[.agg cs.toArray] w (Ret w (.int .i64 (dep x:Int)))
 |0,x,_,_,h,_,_=>absurd (U_ x) (by omega)
 |N+1,.mk op int vk vi vs nm l,cs,w,hn,hN,h=>by
  have HI:=h_ fun x cs w h1 h2=>a4f N x cs w h1 (by omega) h2
  rw[nodes] at hn
  rw[dep]
  obtain⟨a,m,rfl,hl,_,_,hlen⟩:=h.lits
  have HL:=h_ hl
  clear h hl
  go_enter Tryz.func72,Tryz.ntmps72
  go_upto_region 1 with(fail)
  refine nA fun w1 hB hw1 hz1=>?_
  have HW:=h_ hw1
  have HBk:=h_ hB
  have p6:=hB.cell 6 rfl
  clear hB hw1
  go_wp2_with fail
  clear p6
  go_loopw [3,4] (fun n i wr=>Lp w1 l (fun k=>a3g (l.take k)) n i wr) (fun _ i _=>l.length - (intOf i).toNat)
  case atStart=>exact⟨⟨0,Nat.zero_le _,rfl,by simp[a3g]⟩,Below.refl _ _⟩
  case round=>
   obtain⟨⟨k,hk,rfl,rfl⟩,hb⟩:=hrel
   have p6:=(HBk.out.below hb).cell 6 rfl
   by_cases hlt:k<l.length
   ·have hwb:=HW.out.trans (hb.mono HW.out.size)
    obtain⟨g,o,us,eq,hgl,hcell,hkx,hrx⟩:=HL.out.at_ hlt
    subst eq
    have HX:=h_ hrx
    obtain⟨eop,eint,evk,evi,evs,enm,el,ee⟩:∃eop eint evk evi evs enm el,l[k]=X.mk eop eint evk evi evs enm el:=by
     cases l[k]
     exact⟨_,_,_,_,_,_,_,rfl⟩
    rw[ee] at hrx
    obtain⟨ea,em,rfl,_⟩:=hrx.lits
    have rr:∀j (u:Value),([.int .i64 eop,.int .i64 eint,.int .i64 evk,.int .i64 evi,.string ⟨evs.toArray⟩,.string ⟨enm.toArray⟩,.slice ea el.length em]:List Value)[j]? = some u->wr.cell? ⟨g,o+k*7+j,none⟩=some u:=fun j u hu=>(hwb.cell (by exact hgl)).trans (hcell j u hu)
    have r0:=rr 0 _ rfl
    have r1:=rr 1 _ rfl
    have r2:=rr 2 _ rfl
    have r3:=rr 3 _ rfl
    have r4:=rr 4 _ rfl
    have r5:=rr 5 _ rfl
    have r6:=rr 6 _ rfl
    simp only[Nat.add_zero] at r0
    have EE:=h_ ee
    have c2:(k:Int)<(l.length:Int):=by omega
    have c3:(0:Int)<=(k:Int):=by omega
    have d1:decide ((k:Int)<(l.length:Int))=true:=decide_eq_true c2
    have gl:g<wr.heap.size:=by have:=hwb.size;omega
    have HWB:=h_ hwb
    clear rr hcell hrx ee
    have hs:=a7h l k hlt
    have hle:=M_ (List.getElem_mem (l:=l) hlt)
    have HB:=h_ hb
    clear hb hwb
    go_wp2_with fail
    refine(HI.out l[k] _ _ (by omega) (HX.out.kept HWB.out (Nat.le_refl _))).mono ?_
    rintro e' w4 ⟨rfl,hw4⟩
    have HB4:=t_ HB hw4
    have HS:=h_ hs
    generalize dep l[k]=M at HS
    clear hw4 HB HWB r0 r1 r2 r3 r4 r5 r6 p6 hs
    go_wp2_with fail
    go_roundw
    case rel=>exact⟨⟨k+1,by omega,by go_num,congrArg (fun z=>Value.int .i64 z) (by rw[HS.out];omega)⟩,HB4.out⟩
    case measure=>simp[intOf];omega
   ·obtain rfl:k=l.length:=by omega
    have d1:decide ((l.length:Int)<(l.length:Int))=false:=decide_eq_false (by omega)
    have HB:=t_ HW hb
    have hd:a3g (l.take l.length)<=1152921504606846975:=by have:=b2z l l.length;omega
    have HT:Hid (a3g (l.take l.length)=a3g l):=h_ (by rw[List.take_length])
    clear hb
    generalize a3g (l.take l.length)=M at hd HT
    have hd2:(M:Int)<=1152921504606846975:=by omega
    go_wp2_with fail
    go_ret
    exact⟨by rw[<-HT.out];rfl,HB.out⟩
theorem b3k(x:X)(cs:List Value)(w:World)(hn:nodes x<=1152921504606846976)(h:XR w x cs):Calls Tryz.prog 28 #[.agg cs.toArray] w (Ret w (.int .i64 (min (dep x) 25:Nat))):=by
 have HX:=h_ h
 obtain⟨op,int,vk,vi,vs,nm,l⟩:=x
 have HD:=h_ fun w' h'=>a4f _ (.mk op int vk vi vs nm l) cs w' (Nat.le_refl _) hn h'
 generalize dep (.mk op int vk vi vs nm l)=M at HD
 obtain⟨a,m,rfl,hl,_,_,hlen⟩:=h.lits
 have HL:=h_ hl
 clear h hl
 go_enter Tryz.func28,Tryz.ntmps28
 go_upto_region 1 with(fail)
 refine nA fun w1 hB hw1 hz1=>?_
 have HW:=h_ hw1
 have HBk:=h_ hB
 have p6:=hB.cell 6 rfl
 have p0:=hB.cell 0 rfl
 have p1:=hB.cell 1 rfl
 have p2:=hB.cell 2 rfl
 have p3:=hB.cell 3 rfl
 have p4:=hB.cell 4 rfl
 have p5:=hB.cell 5 rfl
 clear hB hw1
 go_wp2_with fail
 refine(HD.out _ (HX.out.kept HW.out (Nat.le_refl _))).mono ?_
 rintro e' w4 ⟨rfl,hw4⟩
 have HB4:=t_ HW hw4
 clear hw4
 go_wp2_with fail
 go_ret
 exact⟨congrArg (fun z=>Ending.returned (.int .i64 z)) (by omega),HB4.out⟩
theorem a9f:∀(N:Nat) (x:X) (cs:List Value) (w:World) (most:Nat),nodes x<=N->N<=1152921504606846976->1<=most->most<=25->XR w x cs->Calls Tryz.prog 59 #[.agg cs.toArray,.int .i64 (most:Int)] w (Ret w (.int .i64 (min (dep x) most:Nat)))
 |0,x,_,_,_,h,_,_,_,_=>absurd (U_ x) (by omega)
 |N+1,.mk op int vk vi vs nm l,cs,w,most,hn,hN,hm,hm2,h=>by
  rw[nodes] at hn
  rw[dep]
  obtain⟨a,m,rfl,hl,_,_,hlen⟩:=h.lits
  have HL:=h_ hl
  clear h hl
  by_cases h1:most<=1
  ·obtain rfl:most=1:=by omega
   have e1:min (a3g l+1) 1=1:=by omega
   rw[e1]
   go_enter Tryz.func59,Tryz.ntmps59
   go_upto_region 1 with(fail)
   refine nA fun w1 hB hw1 hz1=>?_
   have HW:=h_ hw1
   clear hB hw1
   go_wp2_with fail
   go_ret
   exact⟨rfl,HW.out⟩
  ·have HI:=h_ fun x cs w h1 h2=>a9f N x cs w (most - 1) h1 (by omega) (by omega) (by omega) h2
   have hc:((most - 1:Nat):Int)=(most:Int) - 1:=by omega
   rw[hc] at HI
   have n1:¬(most:Int)<=1:=by omega
   go_enter Tryz.func59,Tryz.ntmps59
   go_upto_region 1 with(fail)
   refine nA fun w1 hB hw1 hz1=>?_
   have HW:=h_ hw1
   have HBk:=h_ hB
   have p6:=hB.cell 6 rfl
   clear hB hw1 hc
   go_wp2_with fail
   clear p6
   go_loopw [5,13] (fun n i wr=>Lp w1 l (fun k=>min (a3g (l.take k)) (most - 1)+1) n i wr) (fun _ i _=>l.length - (intOf i).toNat)
   case atStart=>exact⟨⟨0,Nat.zero_le _,rfl,by simp[a3g]⟩,Below.refl _ _⟩
   case round=>
    obtain⟨⟨k,hk,rfl,rfl⟩,hb⟩:=hrel
    by_cases hlt:k<l.length
    ·have hwb:=HW.out.trans (hb.mono HW.out.size)
     obtain⟨g,o,us,eq,hgl,hcell,hkx,hrx⟩:=HL.out.at_ hlt
     subst eq
     have HX:=h_ hrx
     obtain⟨eop,eint,evk,evi,evs,enm,el,ee⟩:∃eop eint evk evi evs enm el,l[k]=X.mk eop eint evk evi evs enm el:=by
      cases l[k]
      exact⟨_,_,_,_,_,_,_,rfl⟩
     rw[ee] at hrx
     obtain⟨ea,em,rfl,_⟩:=hrx.lits
     have rr:∀j (u:Value),([.int .i64 eop,.int .i64 eint,.int .i64 evk,.int .i64 evi,.string ⟨evs.toArray⟩,.string ⟨enm.toArray⟩,.slice ea el.length em]:List Value)[j]? = some u->wr.cell? ⟨g,o+k*7+j,none⟩=some u:=fun j u hu=>(hwb.cell (by exact hgl)).trans (hcell j u hu)
     have r0:=rr 0 _ rfl
     have r1:=rr 1 _ rfl
     have r2:=rr 2 _ rfl
     have r3:=rr 3 _ rfl
     have r4:=rr 4 _ rfl
     have r5:=rr 5 _ rfl
     have r6:=rr 6 _ rfl
     simp only[Nat.add_zero] at r0
     have EE:=h_ ee
     have c2:(k:Int)<(l.length:Int):=by omega
     have c3:(0:Int)<=(k:Int):=by omega
     have d1:decide ((k:Int)<(l.length:Int))=true:=decide_eq_true c2
     have gl:g<wr.heap.size:=by have:=hwb.size;omega
     have HWB:=h_ hwb
     clear rr hcell hrx ee
     have hs:=a7h l k hlt
     have hle:=M_ (List.getElem_mem (l:=l) hlt)
     have HB:=h_ hb
     clear hb hwb
     go_wp2_with fail
     refine(HI.out l[k] _ _ (by omega) (HX.out.kept (HWB.out.trans ((d_ wr _).mono HWB.out.size)) (Nat.le_refl _))).mono ?_
     rintro e' w4 ⟨rfl,hw4⟩
     have HB4:=h_ ((HB.out.trans ((d_ wr _).mono HB.out.size)).trans (hw4.mono (by have:=HB.out.size;simp;omega)))
     have HS:=h_ hs
     generalize dep l[k]=M at HS
     clear hw4 HB HWB r0 r1 r2 r3 r4 r5 r6 hs
     go_wp2_with fail
     go_roundw
     case rel=>exact⟨⟨k+1,by omega,by go_num,congrArg (fun z=>Value.int .i64 z) (by rw[HS.out];omega)⟩,HB4.out⟩
     case measure=>simp[intOf];omega
    ·obtain rfl:k=l.length:=by omega
     have d1:decide ((l.length:Int)<(l.length:Int))=false:=decide_eq_false (by omega)
     have HB:=t_ HW hb
     have HT:Hid (a3g (l.take l.length)=a3g l):=h_ (by rw[List.take_length])
     clear hb
     go_wp2_with fail
     go_ret
     exact⟨congrArg (fun z=>Ending.returned (.int .i64 z)) (by rw[HT.out];omega),HB.out⟩
theorem a8z(x:X)(cs:List Value)(w:World)(hn:nodes x<=1152921504606846976)(h:XR w x cs):Calls Tryz.prog 24 #[.agg cs.toArray] w (Ret w (.int .i64 (min (dep x) 25:Nat))):=by
 have HX:=h_ h
 obtain⟨op,int,vk,vi,vs,nm,l⟩:=x
 have HD:=h_ fun w' h'=>a9f _ (.mk op int vk vi vs nm l) cs w' 25 (Nat.le_refl _) hn (by omega) (by omega) h'
 generalize dep (.mk op int vk vi vs nm l)=M at HD
 obtain⟨a,m,rfl,hl,_,_,hlen⟩:=h.lits
 have HL:=h_ hl
 clear h hl
 go_enter Tryz.func24,Tryz.ntmps24
 go_upto_region 1 with(fail)
 refine nA fun w1 hB hw1 hz1=>?_
 have HW:=h_ hw1
 have HBk:=h_ hB
 have p6:=hB.cell 6 rfl
 have p0:=hB.cell 0 rfl
 have p1:=hB.cell 1 rfl
 have p2:=hB.cell 2 rfl
 have p3:=hB.cell 3 rfl
 have p4:=hB.cell 4 rfl
 have p5:=hB.cell 5 rfl
 clear hB hw1
 go_wp2_with fail
 refine(HD.out _ (HX.out.kept HW.out (Nat.le_refl _))).mono ?_
 rintro e' w4 ⟨rfl,hw4⟩
 have HB4:=t_ HW hw4
 clear hw4
 go_wp2_with fail
 go_ret
 exact⟨rfl,HB4.out⟩
end Go.Proofs.YtlimlmjljjmcpaaGreatDoor.Px
