import Derived.Test.YtlimlmjljjmcpaaGreatDoorPxOwn
import Derived.Test.YtlimlmjljjmcpaaGreatDoorPxA
import Derived.Test.YtlimlmjljjmcpaaGreatDoorLxA
import Derived.Test.YtlimlmjljjmcpaaGreatDoorPxB
set_option maxHeartbeats 20000000
set_option maxRecDepth 100000
namespace Go.Proofs.YtlimlmjljjmcpaaGreatDoor.Px
open Go Go.RowKit Go.Proofs.YtlimlmjljjmcpaaGreatDoor.Ps
set_option linter.unusedVariables false
set_option linter.unusedSimpArgs false
structure Col where
 nm:S
 kind:Int
 nul:Bool
structure Fkey where
 cols:List Int
 tb:S
structure Tbl where
 nm:S
 cols:List Col
 key:List Int
 fors:List Fkey
 checks:List X
def a6R(n:Int):C:=.l (.int .i64 n)
def a5h(c:Col):C:=.a [.l (S_ c.nm),.l (.int .i64 c.kind),.l (.bool c.nul)]
def a2s(f:Fkey):C:=.a [.s (f.cols.map a6R),.l (S_ f.tb)]
def b3w(t:Tbl):C:=.a [.l (S_ t.nm),.s (t.cols.map a5h),.s (t.key.map a6R),.s (t.fors.map a2s),.s (a1Q t.checks)]
def CL(w:World)(l:List Col)(v:Value):Prop:=Rp Tryz.prog w 49 [v] (.s (l.map a5h))
def IL(w:World)(l:List Int)(v:Value):Prop:=Rp Tryz.prog w 50 [v] (.s (l.map a6R))
def FL(w:World)(l:List Fkey)(v:Value):Prop:=Rp Tryz.prog w 51 [v] (.s (l.map a2s))
def TR(w:World)(t:Tbl)(cs:List Value):Prop:=Rp Tryz.prog w 53 cs (b3w t)
theorem CL.kept{n:Nat}{w w':World}{l:List Col}{v:Value}(h:CL w l v)(hb:Below n w w')(hn:w.heap.size<=n):CL w' l v:=Rp.kept hb hn h
theorem IL.kept{n:Nat}{w w':World}{l:List Int}{v:Value}(h:IL w l v)(hb:Below n w w')(hn:w.heap.size<=n):IL w' l v:=Rp.kept hb hn h
theorem FL.kept{n:Nat}{w w':World}{l:List Fkey}{v:Value}(h:FL w l v)(hb:Below n w w')(hn:w.heap.size<=n):FL w' l v:=Rp.kept hb hn h
theorem TR.kept{n:Nat}{w w':World}{t:Tbl}{cs:List Value}(h:TR w t cs)(hb:Below n w w')(hn:w.heap.size<=n):TR w' t cs:=Rp.kept hb hn h
theorem b2y{α:Type}{f:α->C}{xs:List C}(h:∀i (hi:i<xs.length),∃y,xs[i]=f y):∃l,xs=List.map f l:=by
 induction xs with
 |nil=>exact⟨[],rfl⟩
 |cons x xs ih=>
  obtain⟨y,hy⟩:=h 0 (by simp)
  obtain⟨l,hl⟩:=ih (fun i hi=>by have:=h (i+1) (by simp;omega);simpa using this)
  exact⟨y::l,by rw[List.map_cons,<-hl,<-show x=f y from hy]⟩
theorem b6M{w:World}{v:List Value}{xs:List C}(h:Rp Tryz.prog w 50 v (.s xs)):∃l,xs=List.map a6R l:=by
 obtain⟨_,_,_,ys,e1,e2,_,_,_,hx⟩:=h.I_ Tryz.underlying50
 injection e2 with e2
 subst e2
 exact b2y fun i hi=>by
  obtain⟨_,us,_,_,hu⟩:=hx i hi
  obtain⟨n,_,e⟩:=hu.a1N Tryz.underlying3
  exact⟨n,e⟩
theorem c0l{w:World}{v:List Value}{xs:List C}(h:Rp Tryz.prog w 49 v (.s xs)):∃l,xs=List.map a5h l:=by
 obtain⟨_,_,_,ys,e1,e2,_,_,_,hx⟩:=h.I_ Tryz.underlying49
 injection e2 with e2
 subst e2
 exact b2y fun i hi=>by
  obtain⟨_,us,_,_,hu⟩:=hx i hi
  obtain⟨s,k,b,_,e,_⟩:=a1y hu
  exact⟨⟨s.data.toList,k,b⟩,by rw[e];unfold a5h;rw[<-a4h]⟩
theorem c0F{w:World}{v:List Value}{xs:List C}(h:Rp Tryz.prog w 51 v (.s xs)):∃l,xs=List.map a2s l:=by
 obtain⟨_,_,_,ys,e1,e2,_,_,_,hx⟩:=h.I_ Tryz.underlying51
 injection e2 with e2
 subst e2
 exact b2y fun i hi=>by
  obtain⟨_,us,_,_,hu⟩:=hx i hi
  obtain⟨_,_,_,x0,s,_,e,_,hr,_⟩:=a0A hu
  obtain⟨l,rfl⟩:=b6M hr
  exact⟨⟨l,s.data.toList⟩,by rw[e];unfold a2s;rw[<-a4h]⟩
theorem c0e{w:World}{v:List Value}{xs:List C}(h:Rp Tryz.prog w 24 v (.s xs)):∃l,xs=a1Q l:=by
 obtain⟨_,_,_,ys,e1,e2,_,_,_,hx⟩:=h.I_ Tryz.underlying24
 injection e2 with e2
 subst e2
 obtain⟨l,hl⟩:=b2y (f:=toC) fun i hi=>by
  obtain⟨_,us,_,_,hu⟩:=hx i hi
  exact c2J _ w us _ (Nat.le_refl _) hu
 exact⟨l,by rw[hl,a0l]⟩
theorem c2Y{w:World}{cs:List Value}{c:C}(h:Rp Tryz.prog w 53 cs c):∃t,c=b3w t:=by
 obtain⟨s,_,_,_,x1,_,_,_,x2,_,_,_,x3,_,_,_,x4,_,rfl,_,_,h1,_,h2,_,h3,_,h4⟩:=a2z h
 obtain⟨l1,rfl⟩:=c0l h1
 obtain⟨l2,rfl⟩:=b6M h2
 obtain⟨l3,rfl⟩:=c0F h3
 obtain⟨l4,rfl⟩:=c0e h4
 exact⟨⟨s.data.toList,l1,l2,l3,l4⟩,by unfold b3w;rw[<-a4h]⟩
theorem TR.lits{w:World}{t:Tbl}{cs:List Value}(h:TR w t cs) :
  ∃a1 m1 a2 m2 a3 m3 a4 m4,cs=[.string ⟨t.nm.toArray⟩,.slice a1 t.cols.length m1,.slice a2 t.key.length m2,.slice a3 t.fors.length m3,.slice a4 t.checks.length m4]/\t.nm.length<=maxLen/\CL w t.cols (.slice a1 t.cols.length m1)/\IL w t.key (.slice a2 t.key.length m2)/\FL w t.fors (.slice a3 t.fors.length m3)/\XL w t.checks (.slice a4 t.checks.length m4):=by
 unfold TR b3w at h
 obtain⟨s,a1,n1,m1,x1,a2,n2,m2,x2,a3,n3,m3,x3,a4,n4,m4,x4,rfl,e,hs,l1,h1,l2,h2,l3,h3,l4,h4⟩:=a2z h
 injection e with e
 injection e with e0 e
 injection e with e1 e
 injection e with e2 e
 injection e with e3 e
 injection e with e4 _
 injection e0 with e0
 injection e1 with e1
 injection e2 with e2
 injection e3 with e3
 injection e4 with e4
 unfold S_ at e0
 injection e0 with e0
 subst e0 e1 e2 e3 e4
 rw[List.length_map] at l1 l2 l3
 rw[a0l,List.length_map] at l4
 subst l1 l2 l3 l4
 exact⟨a1,m1,a2,m2,a3,m3,a4,m4,rfl,by simpa[ByteArray.size] using hs,h1,h2,h3,h4⟩
theorem b6G{w:World}{t e:TypeId}{a:Option Addr}{n m k z:Nat}{xs:List C}(hu:Tryz.prog.underlying t=some (.slice e))(hz:Tryz.prog.cellsOf e=z)(hz0:0<z)(h:Rp Tryz.prog w t [.slice a n m] (.s xs))(hk:k<n) :
  ∃b o us,a=some ⟨b,o,none⟩/\EC w b (o+k*z) us /\ ∃hx:k<xs.length,Rp Tryz.prog w e us xs[k]:=by
 obtain⟨b,o,us,h1,h2,_,h4,hx,h5⟩:=a0i hu hz hz0 h hk
 exact⟨b,o,us,h1,⟨h2,h4⟩,hx,h5⟩
theorem CL.at_{w:World}{l:List Col}{a:Option Addr}{n m k:Nat}(h:CL w l (.slice a n m))(hk:k<n):∃g o,a=some ⟨g,o,none⟩ /\ ∃hx:k<l.length,EC w g (o+k*3) [.string ⟨l[k].nm.toArray⟩,.int .i64 l[k].kind,.bool l[k].nul]:=by
 obtain⟨g,o,us,e,hc,hx,hr⟩:=b6G Tryz.underlying49 a0L (by omega) h hk
 have hx':k<l.length:=by simpa using hx
 refine⟨g,o,e,hx',?_⟩
 rw[List.getElem_map] at hr
 obtain⟨s,q,b,rfl,e2,_⟩:=a1y hr
 unfold a5h at e2
 injection e2 with e2
 injection e2 with e0 e2
 injection e2 with e1 e2
 injection e2 with e3 _
 injection e0 with e0
 unfold S_ at e0
 injection e1 with e1
 injection e1 with _ e1
 injection e3 with e3
 injection e3 with e3
 rw[e0,e1,e3]
 exact hc
theorem IL.at_{w:World}{l:List Int}{a:Option Addr}{n m k:Nat}(h:IL w l (.slice a n m))(hk:k<n):∃g o,a=some ⟨g,o,none⟩ /\ ∃hx:k<l.length,EC w g (o+k*1) [.int .i64 l[k]]:=by
 obtain⟨g,o,us,e,hc,hx,hr⟩:=b6G Tryz.underlying50 a3e (by omega) h hk
 have hx':k<l.length:=by simpa using hx
 refine⟨g,o,e,hx',?_⟩
 rw[List.getElem_map] at hr
 obtain⟨q,rfl,e2⟩:=hr.a1N Tryz.underlying3
 unfold a6R at e2
 injection e2 with e2
 injection e2 with _ e2
 rw[e2]
 exact hc
theorem FL.at_{w:World}{l:List Fkey}{a:Option Addr}{n m k:Nat}(h:FL w l (.slice a n m))(hk:k<n):∃g o,a=some ⟨g,o,none⟩ /\ ∃hx:k<l.length,∃b c,EC w g (o+k*2) [.slice b l[k].cols.length c,.string ⟨l[k].tb.toArray⟩]/\IL w l[k].cols (.slice b l[k].cols.length c):=by
 obtain⟨g,o,us,e,hc,hx,hr⟩:=b6G Tryz.underlying51 a0g (by omega) h hk
 have hx':k<l.length:=by simpa using hx
 refine⟨g,o,e,hx',?_⟩
 rw[List.getElem_map] at hr
 obtain⟨b,n0,c,x0,s,rfl,e2,l0,hi,_⟩:=a0A hr
 unfold a2s at e2
 injection e2 with e2
 injection e2 with e0 e2
 injection e2 with e1 _
 injection e0 with e0
 injection e1 with e1
 unfold S_ at e1
 subst e0
 rw[List.length_map] at l0
 subst l0
 refine⟨b,c,?_,hi⟩
 rw[e1]
 exact hc
end Go.Proofs.YtlimlmjljjmcpaaGreatDoor.Px
namespace Go.Proofs.YtlimlmjljjmcpaaGreatDoor.Px
open Go Go.RowKit
set_option linter.unusedVariables false
set_option linter.unusedSimpArgs false
inductive RX where
 |ok (x:X)
 |no (e:Int)
def c2Z(i:Int):X:=.mk 2 i 0 0 [] [] []
def a2o(s:S):List S->Nat->Option Nat
 |[],_=>none
 |a::l,i=>if a=s then some i else a2o s l (i+1)
def a1o:Int->List Int->Option Int
 |k,[]=>some k
 |k,x::l=>if x=0 then a1o k l else if k ≠ 0/\k ≠ x then none else a1o x l
def c2j:Option Int->Int × Bool
 |some k=>(k,true)
 |none=>(0,false)
def a1n(l:List Int):Int × Bool:=c2j (a1o 0 l)
def a1R(l:List Int)(k:Int):Bool:=l.all fun x=>decide (x=0) || decide (x=k)
theorem a5N(m:List Int):∀(l:List Int) (k:Int),a1o k (l++m)=match a1o k l with|some q=>a1o q m|none=>none
 |[],k=>rfl
 |y::l,k=>by
  rw[List.cons_append,a1o,a1o]
  by_cases h0:y=0
  ·rw[if_pos h0,if_pos h0,a5N m l k]
  ·rw[if_neg h0,if_neg h0]
   by_cases h1:k ≠ 0/\k ≠ y
   ·rw[if_pos h1,if_pos h1]
   ·rw[if_neg h1,if_neg h1,a5N m l y]
theorem b0z(x:Int)(l:List Int)(k:Int):a1o k (l++[x])=match a1o k l with|some q=>(if x=0 then some q else if q ≠ 0/\q ≠ x then none else some x)|none=>none:=a5N [x] l k
theorem b1b{l:List Int}{k:Nat}(h:k<l.length)(q:Int):a1o q (l.take (k+1))=match a1o q (l.take k) with|some r=>(if l[k]=0 then some r else if r ≠ 0/\r ≠ l[k] then none else some l[k])|none=>none:=by
 rw[List.take_succ_eq_append_getElem h,b0z]
theorem b6T{q:Int}{l m:List Int}(h:a1o q l=none):a1o q (l++m)=none:=by rw[a5N,h]
theorem b3g{l:List Int}{k:Nat}(h:k<l.length){q:Int}(h1:a1o q (l.take (k+1))=none):a1o q l=none:=by
 have:=b6T (m:=l.drop (k+1)) h1
 rwa [List.take_append_drop] at this
theorem a8o:∀(l:List Int) (q k:Int),k ≠ 0->(q=0\/q=k)->(match a1o q l with|some r=>r=0\/r=k|none=>False)\/a1R l k=false
 |[],q,k,_,hq=>.inl (by unfold a1o;exact hq)
 |x::l,q,k,hk,hq=>by
  unfold a1o
  have ha:a1R (x::l) k=((decide (x=0) || decide (x=k))&&a1R l k):=by unfold a1R;rw[List.all_cons]
  by_cases h0:x=0
  ·rw[if_pos h0,ha,decide_eq_true h0,Bool.true_or,Bool.true_and]
   exact a8o l q k hk hq
  ·rw[if_neg h0]
   by_cases hx:x=k
   ·subst hx
    rw[if_neg (by rintro⟨h1,h2⟩;rcases hq with h|h;exact h1 h;exact h2 h),ha,decide_eq_true rfl,Bool.or_true,Bool.true_and]
    exact a8o l x x hk (.inr rfl)
   ·refine .inr ?_
    rw[ha,decide_eq_false h0,decide_eq_false hx]
    rfl
theorem b2A:∀(l:List Int) (q k r:Int),a1o q l=some r->(r=0\/r=k)->(q=0\/q=k)/\a1R l k=true
 |[],q,k,r,h,hr=>by
  unfold a1o at h
  injection h with h
  subst h
  exact⟨hr,rfl⟩
 |x::l,q,k,r,h,hr=>by
  have ha:a1R (x::l) k=((decide (x=0) || decide (x=k))&&a1R l k):=by unfold a1R;rw[List.all_cons]
  unfold a1o at h
  by_cases h0:x=0
  ·rw[if_pos h0] at h
   have:=b2A l q k r h hr
   refine⟨this.1,?_⟩
   rw[ha,decide_eq_true h0,this.2]
   rfl
  ·rw[if_neg h0] at h
   by_cases h1:q ≠ 0/\q ≠ x
   ·rw[if_pos h1] at h;cases h
   ·rw[if_neg h1] at h
    have:=b2A l x k r h hr
    have hx:x=k:=by rcases this.1 with h2|h2;exact absurd h2 h0;exact h2
    subst hx
    refine⟨by omega,?_⟩
    rw[ha,decide_eq_true rfl,this.2,Bool.or_true]
    rfl
theorem c0t(l:List Int)(k:Int)(hk:k ≠ 0):((a1n (l++[k])).2&&decide ((a1n (l++[k])).1=k))=a1R l k:=by
 have hq:a1n (l++[k])=c2j (a1o 0 (l++[k])):=rfl
 rw[b0z] at hq
 generalize a1n (l++[k])=q at hq |-
 cases h:a1o 0 l with
 |none=>
  rw[h] at hq
  subst hq
  rcases a8o l 0 k hk (.inl rfl) with h1|h1
  ·rw[h] at h1;exact h1.elim
  ·rw[h1];rfl
 |some r=>
  rw[h] at hq
  simp only[if_neg hk] at hq
  by_cases hr:r ≠ 0/\r ≠ k
  ·rw[if_pos hr] at hq
   subst hq
   rcases a8o l 0 k hk (.inl rfl) with h1|h1
   ·rw[h] at h1
    simp only at h1
    omega
   ·rw[h1];rfl
  ·rw[if_neg hr] at hq
   subst hq
   rw[(b2A l 0 k r h (by omega)).2]
   simp[c2j]
def a5L(op vk:Int)(l:List Int):Int × Bool:=
 if op=1 then(vk,true) else
 if op=4\/op=5\/op=6 then(3,a1R l 3) else
 if op=7\/op=8\/op=9\/op=10\/op=11\/op=12 then(3,(a1n l).2) else
 if op=19 then(2,a1R l 2) else
 if op=20 then(1,a1R l 2) else
 if op=21 then(3,true) else
 if op=22 then((a1n (l.drop 1)).1,(a1n (l.drop 1)).2&&a1R (l.take 1) 3) else
 if op=23 then a1n l else
 if op=24 then(3,a1R l 1) else(1,a1R l 1)
def b0c(op:Int)(n:Nat):Bool:=!decide ((n:Int)<(arity op).1) && !decide ((arity op).2<(n:Int))
def a0C(op int vk vi:Int)(vs nm:S)(n:Nat):Bool:=
 (b0c op n&&nm.isEmpty)&&(if op=1 then decide (int=0)&&G_ vk vi vs else if op=2 then x_ vk vi vs else if op=24 then x_ vk vi vs&&(decide (0<=int)&&decide (int<13)) else decide (int=0)&&x_ vk vi vs)
def tcE(op vk:Int):List Int ⊕ Int->Int × Int
 |.inl kl=>if(a5L op vk kl).2 then((a5L op vk kl).1,0) else(0,7)
 |.inr e=>(0,e)
mutual
def tc(ks:List Int):X->Int × Int
 |.mk op int vk vi vs nm l=>
  if(arity op).1<0 then(0,7) else if a0C op int vk vi vs nm l.length=false then(0,8) else
  if op=2 then(if 0<=int/\int<ks.length then(ks.getD int.toNat 0,0) else(0,13)) else
  tcE op vk (tcs ks l)
def tcs(ks:List Int):List X->List Int ⊕ Int
 |[]=>.inl []
 |x::l=>if(tc ks x).2=0 then(match tcs ks l with|.inl kl=>.inl ((tc ks x).1::kl)|.inr e=>.inr e) else .inr (tc ks x).2
end
def chk(ks:List Int)(x:X):Int × Int:=if 24<dep x then(0,26) else tc ks x
theorem b3T{ks:List Int}{l:List X}{k:Nat}{m:List Int}(h:k<l.length)(h1:tcs ks (l.take k)=.inl m):tcs ks (l.take (k+1))=if(tc ks l[k]).2=0 then .inl (m++[(tc ks l[k]).1]) else .inr (tc ks l[k]).2:=by
 induction l generalizing k m with
 |nil=>simp at h
 |cons x l ih=>
  cases k with
  |zero=>
   simp only[List.take_zero,tcs] at h1
   injection h1 with h1
   subst h1
   simp only[List.take_succ_cons,List.take_zero,tcs,List.getElem_cons_zero,List.nil_append]
  |succ k=>
   rw[List.take_succ_cons,tcs] at h1
   rw[List.take_succ_cons,tcs,List.getElem_cons_succ]
   by_cases hx:(tc ks x).2=0
   ·rw[if_pos hx] at h1 |-
    cases hk:tcs ks (l.take k) with
    |inr e=>rw[hk] at h1;cases h1
    |inl m'=>
     rw[hk] at h1
     injection h1 with h1
     subst h1
     rw[ih (by simpa using h) hk]
     have hkl:k<l.length:=by simpa using h
     by_cases hz:(tc ks (l[k]'hkl)).2=0
     ·simp only[hz,if_true,List.cons_append]
     ·simp only[hz,if_false]
   ·rw[if_neg hx] at h1;cases h1
theorem b6v{ks:List Int}{l:List X}{k:Nat}{m:List Int}(h:k<l.length)(h1:tcs ks (l.take k)=.inl m)(h2:(tc ks l[k]).2 ≠ 0):tcs ks l=.inr (tc ks l[k]).2:=by
 induction l generalizing k m with
 |nil=>simp at h
 |cons x l ih=>
  cases k with
  |zero=>rw[tcs,if_neg (by simpa using h2)];rfl
  |succ k=>
   rw[List.take_succ_cons,tcs] at h1
   rw[tcs]
   by_cases hx:(tc ks x).2=0
   ·rw[if_pos hx] at h1 |-
    cases hk:tcs ks (l.take k) with
    |inr e=>rw[hk] at h1;cases h1
    |inl m'=>rw[ih (by simpa using h) hk (by simpa using h2)];rfl
   ·rw[if_neg hx] at h1;cases h1
theorem a6a{ks:List Int}:∀ {l:List X} {m:List Int},tcs ks l=.inl m->m.length=l.length
 |[],m,h=>by rw[tcs] at h;injection h with h;subst h;rfl
 |x::l,m,h=>by
  rw[tcs] at h
  split at h
  ·cases hk:tcs ks l with
   |inr e=>rw[hk] at h;cases h
   |inl m'=>
    rw[hk] at h
    injection h with h
    subst h
    rw[List.length_cons,List.length_cons,a6a hk]
  ·cases h
end Go.Proofs.YtlimlmjljjmcpaaGreatDoor.Px
namespace Go.Proofs.YtlimlmjljjmcpaaGreatDoor.Px
open Go Go.RowKit Go.Proofs.YtlimlmjljjmcpaaGreatDoor.Ps
set_option linter.unusedVariables false
set_option linter.unusedSimpArgs false
def c0Y(n:Int):Value:=.int .i64 n
def SI(w:World)(L:List Int)(a:Option Addr):Prop:=∀(j:Nat) (n:Int),L[j]? = some n -> ∃b o,a=some ⟨b,o,none⟩/\b<w.heap.size/\w.cell? ⟨b,o+j,none⟩=some (.int .i64 n)
theorem SI.at_{w:World}{L:List Int}{a:Option Addr}(h:SI w L a){k:Nat}(hk:k<L.length):∃b o,a=some ⟨b,o,none⟩/\b<w.heap.size/\w.cell? ⟨b,o+k,none⟩=some (.int .i64 L[k]):=h k _ (List.getElem?_eq_getElem hk)
theorem SI.below{w w':World}{L:List Int}{a:Option Addr}(h:SI w L a)(hb:Below w.heap.size w w'):SI w' L a:=fun j s hs=>by
 obtain⟨b,o,e,hl,hc⟩:=h j s hs
 exact⟨b,o,e,Nat.lt_of_lt_of_le hl hb.size,(hb.cell hl).trans hc⟩
theorem SI.drop1{w:World}{L:List Int}{g o:Nat}(h:SI w L (some ⟨g,o,none⟩)):SI w (L.drop 1) (some ⟨g,o+1,none⟩):=fun j n hj=>by
 rw[List.getElem?_drop] at hj
 obtain⟨b,o',e,hl,hc⟩:=h _ n hj
 injection e with e
 injection e with e1 e2
 subst e1 e2
 exact⟨_,_,rfl,hl,by rw[Nat.add_assoc];exact hc⟩
theorem SI.take1{w:World}{L:List Int}{a:Option Addr}(h:SI w L a):SI w (L.take 1) a:=fun j n hj=>by
 rw[List.getElem?_take] at hj
 split at hj
 ·exact h j n hj
 ·cases hj
def a0v(B:Nat)(v:Value)(M:List Int)(w:World):Prop:=w.ownsRow B 3 1 v M.length (M.map c0Y)
theorem a4L:(Tryz.prog.info? 3).map (fun i=>(i.zero,i.size,i.bytes))=some (some (.int .i64 0),1,8):=by kernel_rfl
theorem a0v.nil(B:Nat)(w:World):a0v B (.slice none 0 0) [] w:=World.ownsRow_nil _ _ _ _
theorem a0v.snoc{B:Nat}{v:Value}{M:List Int}{s:Int}{w:World}(h:w.ownsRow B 3 1 v (M.length+1) (M.map c0Y++[.int .i64 s])):a0v B v (M++[s]) w:=by
 unfold a0v
 rw[List.length_append,List.map_append]
 exact h
theorem a0v.below{B:Nat}{v:Value}{M:List Int}{w w':World}(h:a0v B v M w)(hb:Below w.heap.size w w'):a0v B v M w':=a0r h hb
theorem a0v.form{B:Nat}{v:Value}{M:List Int}{w:World}(h:a0v B v M w):∃a c,v=.slice a M.length c/\SI w M a:=by
 unfold a0v at h
 by_cases h0:M.length=0
 ·obtain⟨A',n',c',rfl⟩:=a4K h
  obtain rfl:=a8j h
  exact⟨A',c',rfl,fun j s hs=>by rw[List.eq_nil_of_length_eq_zero h0] at hs;cases hs⟩
 ·obtain⟨g,cap,rfl,hg1,hg2⟩:=h.form (by omega)
  refine⟨_,cap,rfl,fun j s hs=>⟨g,0,rfl,hg2,?_⟩⟩
  have e1:(⟨g,0,none⟩:Addr).add j=⟨g,0+j,none⟩:=by unfold Addr.add;split<;>simp_all
  rw[<-e1]
  refine h.cells (g:=g) rfl j _ ?_
  rw[List.getElem?_map,hs]
  rfl
theorem a0v.cap{B:Nat}{M:List Int}{w:World}{a:Option Addr}{n c:Nat}(h:a0v B (.slice a n c) M w):M.length<=c:=b6R h
def a1S(q:Int × Bool):Value:=.tuple #[.int .i64 q.1,.bool q.2]
def a2m(q:Int × Int):Value:=.tuple #[.int .i64 q.1,.int .i64 q.2]
theorem a3Q(L:List Int)(a:Option Addr)(c:Nat)(w:World)(hn:L.length<=1099511627776)(hv:SI w L a):Calls Tryz.prog 351 #[.slice a L.length c] w (Ret w (a1S (a1n L))):=by
 have HV:=h_ hv
 clear hv
 go_enter Tryz.func351,Tryz.ntmps351
 go_wp2_with fail
 go_loop [4,6,9] (fun q _ i=>∃(k:Nat) (r:Int),k<=L.length/\i=.int .i64 k/\q=.int .i64 r/\a1o 0 (L.take k)=some r) (fun q _ i=>L.length - (intOf i).toNat)
 case atStart=>exact⟨0,0,Nat.zero_le _,rfl,rfl,rfl⟩
 case round=>
  obtain⟨k,r,hk,rfl,rfl,hr⟩:=hrel
  by_cases hlt:k<L.length
  ·obtain⟨g,o,rfl,hg,hc⟩:=HV.out.at_ hlt
   have k0:(0:Int)<=(k:Int):=by omega
   have k1:(k:Int)<(L.length:Int):=by omega
   have hT:=b1b hlt 0
   rw[hr] at hT
   have HT:=h_ hT
   have HBD:=h_ (b3g hlt (q:=0))
   clear hr hT
   generalize L[k]=x at hc HT
   by_cases h0:x=0
   ·subst h0
    have HF:Hid (a1o 0 (L.take (k+1))=some r):=h_ (by rw[HT.out];rfl)
    clear HT
    go_wp2_with fail
    go_round
    case rel=>exact⟨k+1,r,by omega,by go_num,rfl,HF.out⟩
    case measure=>simp[intOf];omega
   ·have h0b:(x==0)=false:=by simpa using h0
    have h0n:(x != 0)=true:=by simpa using h0
    by_cases h1:r=0
    ·subst h1
     have HF:Hid (a1o 0 (L.take (k+1))=some x):=h_ (by rw[HT.out];simp only[if_neg h0];rw[if_neg (by omega)])
     clear HT
     go_wp2_with fail
     go_round
     case rel=>exact⟨k+1,x,by omega,by go_num,rfl,HF.out⟩
     case measure=>simp[intOf];omega
    ·have h1b:(r==0)=false:=by simpa using h1
     have h1n:(r != 0)=true:=by simpa using h1
     by_cases h2:r=x
     ·subst h2
      have HF:Hid (a1o 0 (L.take (k+1))=some r):=h_ (by rw[HT.out];simp only[if_neg h0];rw[if_neg (by omega)])
      clear HT
      go_wp2_with fail
      go_round
      case rel=>exact⟨k+1,r,by omega,by go_num,rfl,HF.out⟩
      case measure=>simp[intOf];omega
     ·have h2b:(r==x)=false:=by simpa using h2
      have h2n:(r != x)=true:=by simpa using h2
      have HF:Hid (a1n L=(0,false)):=h_ (by unfold a1n;rw[HBD.out (by rw[HT.out];simp only[if_neg h0];rw[if_pos ⟨h1,h2⟩])];rfl)
      clear HT
      go_wp2_with fail
      go_ret2
      exact⟨by rw[HF.out];rfl,Below.refl _ _⟩
  ·obtain rfl:k=L.length:=by omega
   rw[List.take_length] at hr
   have HF:Hid (a1n L=(r,true)):=h_ (by unfold a1n;rw[hr];rfl)
   have d1:decide ((L.length:Int)<(L.length:Int))=false:=decide_eq_false (by omega)
   clear hr
   go_wp2_with fail
   go_ret2
   exact⟨by rw[HF.out];rfl,Below.refl _ _⟩
theorem a4I(L:List Int)(a:Option Addr)(c:Nat)(w:World)(hn:L.length<=1099511627776)(hv:SI w L a):Calls Tryz.prog 353 #[.slice a L.length c] w (Ret w (a1S (a1n L))):=by
 have HV:=h_ hv
 clear hv
 go_enter Tryz.func353,Tryz.ntmps353
 go_wp2_with fail
 go_loop [4,5] (fun q i=>∃(k:Nat) (r:Int),k<=L.length/\i=.int .i64 k/\q=.int .i64 r/\a1o 0 (L.take k)=some r) (fun q i=>L.length - (intOf i).toNat)
 case atStart=>exact⟨0,0,Nat.zero_le _,rfl,rfl,rfl⟩
 case round=>
  obtain⟨k,r,hk,rfl,rfl,hr⟩:=hrel
  by_cases hlt:k<L.length
  ·obtain⟨g,o,rfl,hg,hc⟩:=HV.out.at_ hlt
   have k0:(0:Int)<=(k:Int):=by omega
   have k1:(k:Int)<(L.length:Int):=by omega
   have hT:=b1b hlt 0
   rw[hr] at hT
   have HT:=h_ hT
   have HBD:=h_ (b3g hlt (q:=0))
   clear hr hT
   generalize L[k]=x at hc HT
   by_cases h0:x=0
   ·subst h0
    have HF:Hid (a1o 0 (L.take (k+1))=some r):=h_ (by rw[HT.out];rfl)
    clear HT
    go_wp2_with fail
    go_round
    case rel=>exact⟨k+1,r,by omega,by go_num,rfl,HF.out⟩
    case measure=>simp[intOf];omega
   ·have h0b:(x==0)=false:=by simpa using h0
    have h0n:(x != 0)=true:=by simpa using h0
    by_cases h1:r=0
    ·subst h1
     have HF:Hid (a1o 0 (L.take (k+1))=some x):=h_ (by rw[HT.out];simp only[if_neg h0];rw[if_neg (by omega)])
     clear HT
     go_wp2_with fail
     go_round
     case rel=>exact⟨k+1,x,by omega,by go_num,rfl,HF.out⟩
     case measure=>simp[intOf];omega
    ·have h1b:(r==0)=false:=by simpa using h1
     have h1n:(r != 0)=true:=by simpa using h1
     by_cases h2:r=x
     ·subst h2
      have HF:Hid (a1o 0 (L.take (k+1))=some r):=h_ (by rw[HT.out];simp only[if_neg h0];rw[if_neg (by omega)])
      clear HT
      go_wp2_with fail
      go_round
      case rel=>exact⟨k+1,r,by omega,by go_num,rfl,HF.out⟩
      case measure=>simp[intOf];omega
     ·have h2b:(r==x)=false:=by simpa using h2
      have h2n:(r != x)=true:=by simpa using h2
      have HF:Hid (a1n L=(0,false)):=h_ (by unfold a1n;rw[HBD.out (by rw[HT.out];simp only[if_neg h0];rw[if_pos ⟨h1,h2⟩])];rfl)
      clear HT
      go_wp2_with fail
      go_ret2
      exact⟨by rw[HF.out];rfl,Below.refl _ _⟩
  ·obtain rfl:k=L.length:=by omega
   rw[List.take_length] at hr
   have HF:Hid (a1n L=(r,true)):=h_ (by unfold a1n;rw[hr];rfl)
   have d1:decide ((L.length:Int)<(L.length:Int))=false:=decide_eq_false (by omega)
   clear hr
   go_wp2_with fail
   go_ret2
   exact⟨by rw[HF.out];rfl,Below.refl _ _⟩
theorem a3w(L:List Int)(kind:Int)(a:Option Addr)(c:Nat)(w:World)(hn:L.length<=1099511627776)(hv:SI w L a):Calls Tryz.prog 352 #[.slice a L.length c,.int .i64 kind] w (Ret w (.bool (a1R L kind))):=by
 have HV:=h_ hv
 clear hv
 go_enter Tryz.func352,Tryz.ntmps352
 go_wp2_with fail
 go_loop [5] (fun i=>∃k:Nat,k<=L.length/\i=.int .i64 k/\a1R (L.take k) kind=true) (fun i=>L.length - (intOf i).toNat)
 case atStart=>exact⟨0,Nat.zero_le _,rfl,rfl⟩
 case round=>
  obtain⟨k,hk,rfl,hr⟩:=hrel
  by_cases hlt:k<L.length
  ·obtain⟨g,o,rfl,hg,hc⟩:=HV.out.at_ hlt
   have k0:(0:Int)<=(k:Int):=by omega
   have k1:(k:Int)<(L.length:Int):=by omega
   have HT:Hid (a1R (L.take (k+1)) kind=(decide (L[k]=0) || decide (L[k]=kind))):=h_ (by
    unfold a1R at hr |-
    rw[List.take_succ_eq_append_getElem hlt,List.all_append,hr,List.all_cons,List.all_nil,Bool.and_true,Bool.true_and])
   have HN:Hid ((decide (L[k]=0) || decide (L[k]=kind))=false->a1R L kind=false):=h_ fun h=>by
    unfold a1R
    exact Bool.eq_false_iff.2 fun hh=>by
     have:=List.all_eq_true.1 hh _ (List.getElem_mem hlt)
     rw[h] at this
     cases this
   clear hr
   generalize L[k]=x at hc HT HN
   by_cases h1:x=kind
   ·subst h1
    have HF:Hid (a1R (L.take (k+1)) x=true):=h_ (by rw[HT.out,decide_eq_true rfl,Bool.or_true])
    clear HT HN
    go_wp2_with fail
    go_round
    case rel=>exact⟨k+1,by omega,by go_num,HF.out⟩
    case measure=>simp[intOf];omega
   ·have h1b:(x==kind)=false:=by simpa using h1
    have h1n:(x != kind)=true:=by simpa using h1
    by_cases h0:x=0
    ·subst h0
     have HF:Hid (a1R (L.take (k+1)) kind=true):=h_ (by rw[HT.out];rfl)
     clear HT HN
     go_wp2_with fail
     go_round
     case rel=>exact⟨k+1,by omega,by go_num,HF.out⟩
     case measure=>simp[intOf];omega
    ·have h0b:(x==0)=false:=by simpa using h0
     have h0n:(x != 0)=true:=by simpa using h0
     have HF:Hid (a1R L kind=false):=h_ (HN.out (by rw[decide_eq_false h0,decide_eq_false h1];rfl))
     clear HT HN
     go_wp2_with fail
     go_ret
     exact⟨by rw[HF.out];rfl,Below.refl _ _⟩
  ·obtain rfl:k=L.length:=by omega
   rw[List.take_length] at hr
   have HF:=h_ hr
   have d1:decide ((L.length:Int)<(L.length:Int))=false:=decide_eq_false (by omega)
   clear hr
   go_wp2_with fail
   go_ret
   exact⟨by rw[HF.out];rfl,Below.refl _ _⟩
theorem own_base{w:World}{B B':Nat}{e:TypeId}{size n:Nat}{v:Value}{xs:List Value}(h:w.ownsRow B e size v n xs)(hb:B'<=B):w.ownsRow B' e size v n xs:=by
 refine⟨h.1,?_⟩
 rcases h.2 with h|⟨g,cap,cur,h1,h2,h3⟩
 ·exact .inl h
 ·exact .inr ⟨g,cap,cur,h1,by omega,h3⟩
theorem b3d(L:List Int)(a:Option Addr)(c:Nat)(w:World)(hn:L.length<=1099511627776)(hv:SI w L a):Calls Tryz.prog 127 #[.slice a L.length c] w fun e w'=>∃v,e=.returned v/\a0v w.heap.size v L w'/\Below w.heap.size w w':=by
 have q1:∀(w:World) (a:Option Addr) (n c n' c':Nat),(binOp .eql 50 (.slice a n c) (.slice none n' c')).run Tryz.prog w=.ok (.bool a.isNone) w:=fun w a n c n' c'=>Lib.run_eql_slice_nil w _ _ a n c n' c' Tryz.underlying50
 obtain⟨i0,hi,hz0,hz1,hz2⟩:=info_parts a4L
 cases a with
 |none=>
  have hL:L=[]:=by
   cases L with
   |nil=>rfl
   |cons x L=>obtain⟨_,_,e,_⟩:=hv 0 x rfl;cases e
  subst hL
  go_enter Tryz.func127,Tryz.ntmps127
  go_wp2
  go_ret
  exact⟨_,rfl,a0v.nil _ _,Below.refl _ _⟩
 |some q=>
  obtain⟨g,o,s⟩:=q
  have HV:=h_ hv
  have hc:∀j u,(L.map c0Y)[j]? = some u->w.cell? ((⟨g,o,s⟩:Addr).add j)=some u/\g<w.heap.size:=fun j u hj=>by
   rw[List.getElem?_map] at hj
   rcases hx:L[j]? with _|n
   ·rw[hx] at hj;cases hj
   ·rw[hx] at hj
    obtain⟨b,o',e,hl,hcell⟩:=HV.out j n hx
    injection e with e
    injection e with e1 e2 e3
    subst e1 e2 e3
    injection hj with hj
    subst hj
    rw[Addr.add_lit]
    exact⟨hcell,hl⟩
  have HC:=h_ hc
  clear hv hc HV
  go_enter Tryz.func127,Tryz.ntmps127
  go_wp2_with (at_builtin;refine wpList_append_own _ rfl _ _ 50 rfl w.heap.size 3 i0 _ 1 8 Tryz.underlying50 hi hz0 hz1 hz2 rfl (by decide) _ _ _ rfl (World.ownsRow_made w #[] 0 (Nat.le_refl _) (Nat.zero_le _) rfl) ⟨g,o,s⟩ L.length c (L.map c0Y) rfl ?qc0 ?qc2 ?qc3 ?qc4 ?qc5 ?qc6 ?_)
  case qc0=>rw[List.length_map,Nat.mul_one]
  case qc2=>
   intro j u hj
   rw[((Below.refl w.heap.size w).alloc (Nat.le_refl _) _).cell (by rw[add_block];exact(HC.out j u hj).2)]
   exact(HC.out j u hj).1
  case qc3=>
   intro u hu
   obtain⟨n,_,rfl⟩:=List.mem_map.1 hu
   rfl
  case qc4=>unfold maxLen;omega
  case qc5=>omega
  case qc6=>simp
  intro v' w1 hown hgrow hnil
  have HO:Hid (a0v w.heap.size v' L w1):=h_ (by unfold a0v;simpa using hown)
  have HB:=h_ (((Below.refl _ w).alloc (Nat.le_refl w.heap.size) _).grown hgrow (by simp) (by intro k hk;simp[Value.ownBlock] at hk;omega))
  clear hown hgrow hnil
  go_wp2
  go_ret
  exact⟨v',rfl,HO.out,HB.out⟩
theorem a3n(L:List Int)(kind:Int)(a:Option Addr)(c:Nat)(w:World)(hkd:kind ≠ 0)(hn:L.length<=1000000000)(hv:SI w L a):Calls Tryz.prog 350 #[.slice a L.length c,.int .i64 kind] w (Ret w (.bool (a1R L kind))):=by
 obtain⟨i0,hi0,hz0,hz1,hz2⟩:=info_parts a4L
 have HCL:=h_ (b3d L a c w (by omega) hv)
 have HA:=h_ (c0t L kind hkd)
 clear hv
 go_enter Tryz.func350,Tryz.ntmps350
 go_wp2_with fail
 refine HCL.out.mono ?_
 rintro e w1 ⟨v,rfl,ho,hb⟩
 have HO:=h_ ho
 have HB:=h_ hb
 have hlt2:∀g,v.ownBlock=some g->w.heap.size<=g:=fun g e=>(ho.lt g e).1
 clear ho hb HCL
 go_wp2_with (at_builtin;refine wpList_append_own_at _ rfl (.tmp 9) (.tmp 11) 50 rfl w.heap.size 3 i0 _ 1 8 Tryz.underlying50 hi0 hz0 hz1 hz2 rfl (by omega) v L.length _ rfl (World.ownsRow.alloc HO.out _) ⟨w1.heap.size,0,none⟩ 1 1 [.int .i64 kind] rfl rfl (a1d _ _ _) (fun u hu=>by obtain rfl:=List.mem_singleton.1 hu;rfl) (by unfold maxLen;omega) (by omega) (Nat.le_trans HB.out.size (by simp)) ?_)
 intro v3 w3 hown3 hg3 _ hat3
 have HB3:=h_ ((HB.out.alloc HB.out.size _).grown hg3 (Nat.le_trans HB.out.size (by simp)) hlt2)
 have ho3:a0v w.heap.size v3 (L++[kind]) w3:=a0v.snoc hown3
 obtain⟨a3,c3,rfl,hs3⟩:=ho3.form
 have HU:=h_ (Ret.at_ (a3Q (L++[kind]) a3 c3 w3 (by simp;omega) hs3) HB3.out)
 clear hown3 hg3 hat3 ho3 hs3 HO HB
 generalize L++[kind]=M at HU HA
 generalize a1n M=q at HU HA
 obtain⟨q1,q2⟩:=q
 go_wp2_with fail
 refine HU.out.mono ?_
 rintro e w4 ⟨rfl,hw4⟩
 have HW4:=h_ hw4
 clear hw4 HU
 have HA2:Hid (a1R L kind=(q2&&decide (q1=kind))):=h_ HA.out.symm
 clear HA
 unfold a1S
 cases q2 with
 |false=>
  go_wp2_with fail
  go_ret
  exact⟨by rw[HA2.out];rfl,HW4.out⟩
 |true=>
  go_wp2_with fail
  all_goals(go_ret;refine⟨congrArg (fun z=>Ending.returned (.bool z)) ?_,HW4.out⟩;rw[HA2.out];first|rfl|(by_cases hqk:q1=kind<;>simp[hqk]))
theorem a7H(op:Int)(n:Nat)(w:World)(hn:n<=1099511627776):Calls Tryz.prog 310 #[.int .i64 op,.int .i64 (n:Int)] w (Ret w (.tuple #[.bool (b0c op n && !decide ((arity op).1<0)),.bool (!decide ((arity op).1<0))])):=by
 go_enter Tryz.func310,Tryz.ntmps310
 go_wp2_with fail
 all_goals
  go_ret2
  refine⟨congrArg (fun z:Bool × Bool=>Ending.returned (.tuple #[.bool z.1,.bool z.2])) (?_:(_,_)=(_,_)),Below.refl _ _⟩
  simp only[beq_iff_eq,Bool.not_eq_true,beq_eq_false_iff_ne,ne_eq] at *
  first
   |(subst_vars;refine Prod.ext ?_ ?_<;>simp[b0c,arity]<;>(try rw[Bool.eq_iff_iff])<;>(try simp)<;>(try omega)<;>(try(split<;>simp_all<;>omega))<;>(try(generalize Int.decLe 2 (n:Int)=d;cases d<;>(try simp)<;>(try(split<;>simp_all<;>omega))))<;>(try(generalize Int.decLe 1 (n:Int)=d;cases d<;>(try simp)<;>(try(split<;>simp_all<;>omega)))))
   |(have e:arity op=(-1,0):=(by(unfold arity;rw[if_neg (by omega),if_neg (by omega),if_neg (by omega),if_neg (by omega),if_neg (by omega),if_neg (by omega),if_neg (by omega)]));rw[e];simp[b0c])
theorem b2o(op int vk vi:Int)(vs nm:S)(l:List X)(cs:List Value)(w:World)(hkn:¬(arity op).1<0)(hll:l.length<=1099511627776)(hvs:vs.length<=140737488351232)(h:XR w (.mk op int vk vi vs nm l) cs):Calls Tryz.prog 311 #[.agg cs.toArray] w (Ret w (.bool (a0C op int vk vi vs nm l.length))):=by
 have hem:=mkE vs
 have hemn:=mkE nm
 have HVS:=h_ hvs
 have HCT:=h_ fun w'=>a7H op l.length w' hll
 have HPK:Hid (a0C op int vk vi vs nm l.length=((b0c op l.length&&nm.isEmpty)&&(if op=1 then decide (int=0)&&G_ vk vi vs else if op=2 then x_ vk vi vs else if op=24 then x_ vk vi vs&&(decide (0<=int)&&decide (int<13)) else decide (int=0)&&x_ vk vi vs))):=h_ rfl
 have HKN:Hid ((!decide ((arity op).1<0))=true):=h_ (by rw[decide_eq_false hkn];rfl)
 rw[HKN.out,Bool.and_true] at HCT
 generalize a0C op int vk vi vs nm l.length=ANS at HPK |-
 generalize b0c op l.length=cb at HPK HCT
 obtain⟨a,m,rfl,hl,_,_,_⟩:=h.lits
 clear h hl hvs HKN hkn
 go_enter Tryz.func311,Tryz.ntmps311
 go_upto_region 1 with(fail)
 refine nA fun w1 hB hw1 hz1=>?_
 have HW:=h_ hw1
 have HBk:=h_ hB
 have p0:=hB.cell 0 rfl
 have p6:=hB.cell 6 rfl
 clear hB hw1 hz1
 go_wp2_with fail
 refine(HCT.out w1).mono ?_
 rintro e w2 ⟨rfl,hw2⟩
 have HB2:=h_ (HBk.out.below hw2)
 have HW2:=t_ HW hw2
 clear hw2 HBk HW HCT p0 p6
 have p0:=HB2.out.cell 0 rfl
 have p1:=HB2.out.cell 1 rfl
 have p2:=HB2.out.cell 2 rfl
 have p3:=HB2.out.cell 3 rfl
 have p4:=HB2.out.cell 4 rfl
 have p5:=HB2.out.cell 5 rfl
 cases cb with
 |false=>
  have HF:Hid (ANS=false):=h_ (by rw[HPK.out];rfl)
  clear HPK
  go_wp2_with fail
  go_ret
  exact⟨by rw[HF.out];rfl,HW2.out⟩
 |true=>
  cases hn:nm.isEmpty with
  |false=>
   rw[hn] at hemn
   have HF:Hid (ANS=false):=h_ (by rw[HPK.out,hn];rfl)
   clear HPK
   go_wp2_with fail
   go_ret
   exact⟨by rw[HF.out];rfl,HW2.out⟩
  |true=>
   rw[hn] at hemn
   have HPK2:Hid (ANS=(if op=1 then decide (int=0)&&G_ vk vi vs else if op=2 then x_ vk vi vs else if op=24 then x_ vk vi vs&&(decide (0<=int)&&decide (int<13)) else decide (int=0)&&x_ vk vi vs)):=h_ (by rw[HPK.out,hn];rfl)
   clear HPK
   by_cases h1:op=1
   ·subst h1
    have HP:Hid (ANS=(decide (int=0)&&G_ vk vi vs)):=h_ (by rw[HPK2.out];rfl)
    clear HPK2
    by_cases hi0:int=0
    ·subst hi0
     go_wp2_with fail
     refine(a5x vk vi vs w2 HVS.out).mono ?_
     rintro e w3 ⟨rfl,hw3⟩
     have HW3:=t_ HW2 hw3
     clear hw3
     go_wp2_with fail
     go_ret
     exact⟨by rw[HP.out];rfl,HW3.out⟩
    ·have hib:(int==0)=false:=by simpa using hi0
     have HF:Hid (ANS=false):=h_ (by rw[HP.out,decide_eq_false hi0];rfl)
     clear HP
     go_wp2_with fail
     go_ret
     exact⟨by rw[HF.out];rfl,HW2.out⟩
   have h1b:(op==1)=false:=by simpa using h1
   by_cases h24:op=24
   ·subst h24
    have HP:Hid (ANS=(x_ vk vi vs&&(decide (0<=int)&&decide (int<13)))):=h_ (by rw[HPK2.out];rfl)
    clear HPK2
    by_cases hlo:int<0
    ·have HF:Hid (ANS=false):=h_ (by rw[HP.out,decide_eq_false (by omega:¬0<=int),Bool.false_and,Bool.and_false])
     clear HP
     go_wp2_with fail
     go_ret
     exact⟨by rw[HF.out];rfl,HW2.out⟩
    ·by_cases hhi:13<=int
     ·have HF:Hid (ANS=false):=h_ (by rw[HP.out,decide_eq_false (by omega:¬int<13),Bool.and_false,Bool.and_false])
      clear HP
      go_wp2_with fail
      go_ret
      exact⟨by rw[HF.out];rfl,HW2.out⟩
     ·have HF:Hid (ANS=x_ vk vi vs):=h_ (by rw[HP.out,decide_eq_true (by omega:0<=int),decide_eq_true (by omega:int<13),Bool.and_true,Bool.and_true])
      clear HP
      cases he:vs.isEmpty<;>rw[he] at hem<;>go_wp2_with fail
      all_goals(go_ret;refine⟨congrArg (fun z=>Ending.returned (.bool z)) ?_,HW2.out⟩;rw[HF.out];clear HF;simp_all[x_])
   have h24b:(op==24)=false:=by simpa using h24
   by_cases h2:op=2
   ·subst h2
    have HF:Hid (ANS=x_ vk vi vs):=h_ (by rw[HPK2.out];rfl)
    clear HPK2
    cases he:vs.isEmpty<;>rw[he] at hem<;>go_wp2_with fail
    all_goals(go_ret;refine⟨congrArg (fun z=>Ending.returned (.bool z)) ?_,HW2.out⟩;rw[HF.out];clear HF;simp_all[x_])
   have h2b:(op==2)=false:=by simpa using h2
   have HP:Hid (ANS=(decide (int=0)&&x_ vk vi vs)):=h_ (by rw[HPK2.out,if_neg h1,if_neg h2,if_neg h24])
   clear HPK2 h1 h2 h24
   by_cases hi0:int=0
   ·subst hi0
    have HF:Hid (ANS=x_ vk vi vs):=h_ (by rw[HP.out];rfl)
    clear HP
    cases he:vs.isEmpty<;>rw[he] at hem<;>go_wp2_with fail
    all_goals(go_ret;refine⟨congrArg (fun z=>Ending.returned (.bool z)) ?_,HW2.out⟩;rw[HF.out];clear HF;simp_all[x_])
   ·have hib:(int==0)=false:=by simpa using hi0
    have HF:Hid (ANS=false):=h_ (by rw[HP.out,decide_eq_false hi0];rfl)
    clear HP
    go_wp2_with fail
    go_ret
    exact⟨by rw[HF.out];rfl,HW2.out⟩
theorem b4b{op:Int}(h:¬(arity op).1<0):op=1\/op=2\/(op=4\/op=5\/op=6)\/(op=7\/op=8\/op=9\/op=10\/op=11\/op=12)\/(op=13\/op=14\/op=15\/op=16\/op=17\/op=18)\/op=19\/op=20\/op=21\/op=22\/op=23\/op=24:=by
 unfold arity at h
 repeat' split at h
 all_goals(first|omega|(exfalso;simp at h))
theorem c2r{l:List Int}(h:l.length=3):∃a b c,l=[a,b,c]:=by
 match l,h with
 |[a,b,c],_=>exact⟨a,b,c,rfl⟩
theorem b1t(op int vk vi:Int)(vs nm:S)(l:List X)(cs:List Value)(w:World)(kl:List Int)(a:Option Addr)(c:Nat)(hkn:¬(arity op).1<0)(h2:op ≠ 2)(h3:op=22->kl.length=3)(hkl:kl.length<=1000000)(hc:kl.length<=c)(hv:SI w kl a)(h:XR w (.mk op int vk vi vs nm l) cs):Calls Tryz.prog 312 #[.agg cs.toArray,.slice a kl.length c] w (Ret w (a1S (a5L op vk kl))):=by
 obtain⟨b,m,rfl,hl,_,_,_⟩:=h.lits
 have HV:=h_ hv
 clear h hl hv
 unfold a1S
 rcases b4b hkn with h1|h1|h1|h1|h1|h1|h1|h1|h1|h1|h1
 ·subst h1
  go_enter Tryz.func312,Tryz.ntmps312
  go_upto_region 1 with(fail)
  refine nA fun w1 hB hw1 hz1=>?_
  have HW:=h_ hw1
  have p0:=hB.cell 0 rfl
  have p2:=hB.cell 2 rfl
  have HV1:=h_ (HV.out.below hw1)
  clear hB hw1 hz1 HV
  go_wp2_with fail
  go_ret2
  exact⟨rfl,HW.out⟩
 ·exact absurd h1 h2
 ·rcases h1 with rfl|rfl|rfl
  all_goals
   go_enter Tryz.func312,Tryz.ntmps312
   go_upto_region 1 with(fail)
   refine nA fun w1 hB hw1 hz1=>?_
   have HW:=h_ hw1
   have p0:=hB.cell 0 rfl
   have p2:=hB.cell 2 rfl
   have HV1:=h_ (HV.out.below hw1)
   clear hB hw1 hz1 HV
   go_wp2_with fail
   refine(a3n kl 3 _ _ w1 (by decide) (by omega) HV1.out).mono ?_
   rintro e w2 ⟨rfl,hw2⟩
   have HW2:=t_ HW hw2
   clear hw2
   go_wp2_with fail
   go_ret2
   exact⟨rfl,HW2.out⟩
 ·rcases h1 with rfl|rfl|rfl|rfl|rfl|rfl
  all_goals
   go_enter Tryz.func312,Tryz.ntmps312
   go_upto_region 1 with(fail)
   refine nA fun w1 hB hw1 hz1=>?_
   have HW:=h_ hw1
   have p0:=hB.cell 0 rfl
   have p2:=hB.cell 2 rfl
   have HV1:=h_ (HV.out.below hw1)
   clear hB hw1 hz1 HV
   have HU:=h_ (a3Q kl a c w1 (by omega) HV1.out)
   have HR:Hid (∀z:Int,(3,(a1n kl).2)=(3,(a1n kl).2)):=h_ fun _=>rfl
   go_wp2_with fail
   refine(HU.out).mono ?_
   rintro e w2 ⟨rfl,hw2⟩
   have HW2:=t_ HW hw2
   clear hw2
   unfold a1S
   go_wp2_with fail
   go_ret2
   exact⟨rfl,HW2.out⟩
 ·rcases h1 with rfl|rfl|rfl|rfl|rfl|rfl
  all_goals
   go_enter Tryz.func312,Tryz.ntmps312
   go_upto_region 1 with(fail)
   refine nA fun w1 hB hw1 hz1=>?_
   have HW:=h_ hw1
   have p0:=hB.cell 0 rfl
   have p2:=hB.cell 2 rfl
   have HV1:=h_ (HV.out.below hw1)
   clear hB hw1 hz1 HV
   go_wp2_with fail
   refine(a3n kl 1 _ _ w1 (by decide) (by omega) HV1.out).mono ?_
   rintro e w2 ⟨rfl,hw2⟩
   have HW2:=t_ HW hw2
   clear hw2
   go_wp2_with fail
   go_ret2
   exact⟨rfl,HW2.out⟩
 iterate 2
  ·subst h1
   skip
   go_enter Tryz.func312,Tryz.ntmps312
   go_upto_region 1 with(fail)
   refine nA fun w1 hB hw1 hz1=>?_
   have HW:=h_ hw1
   have p0:=hB.cell 0 rfl
   have p2:=hB.cell 2 rfl
   have HV1:=h_ (HV.out.below hw1)
   clear hB hw1 hz1 HV
   go_wp2_with fail
   refine(a3n kl 2 _ _ w1 (by decide) (by omega) HV1.out).mono ?_
   rintro e w2 ⟨rfl,hw2⟩
   have HW2:=t_ HW hw2
   clear hw2
   go_wp2_with fail
   go_ret2
   exact⟨rfl,HW2.out⟩
 ·subst h1
  go_enter Tryz.func312,Tryz.ntmps312
  go_upto_region 1 with(fail)
  refine nA fun w1 hB hw1 hz1=>?_
  have HW:=h_ hw1
  have p0:=hB.cell 0 rfl
  have p2:=hB.cell 2 rfl
  have HV1:=h_ (HV.out.below hw1)
  clear hB hw1 hz1 HV
  go_wp2_with fail
  go_ret2
  exact⟨rfl,HW.out⟩
 ·subst h1
  obtain⟨x,y,z,rfl⟩:=c2r (h3 rfl)
  simp only[List.length_cons,List.length_nil,Nat.zero_add] at hc hkl |-
  obtain⟨g,o,rfl,_,_⟩:=HV.out.at_ (k:=0) (by simp)
  go_enter Tryz.func312,Tryz.ntmps312
  go_upto_region 1 with(fail)
  refine nA fun w1 hB hw1 hz1=>?_
  have HW:=h_ hw1
  have p0:=hB.cell 0 rfl
  have p2:=hB.cell 2 rfl
  have HV1:=h_ (HV.out.below hw1)
  clear hB hw1 hz1 HV
  have HU:=h_ (a3Q [y,z] (some ⟨g,o+1,none⟩) (c - 1) w1 (by simp) HV1.out.drop1)
  have hc1:(3:Int)<=(c:Int):=by omega
  have hc2:(1:Int)<=(c:Int):=by omega
  have hc3:((c - 1:Nat):Int)=(c:Int) - 1:=by omega
  have HR:Hid (a5L 22 vk [x,y,z]=((a1n [y,z]).1,(a1n [y,z]).2&&a1R [x] 3)):=h_ rfl
  generalize a1n [y,z]=q at HU HR
  obtain⟨q1,q2⟩:=q
  go_wp2_with fail
  refine HU.out.mono ?_
  rintro e w2 ⟨rfl,hw2⟩
  have HW2:=t_ HW hw2
  have HA:=h_ (Ret.at_ (a3n [x] 3 (some ⟨g,o,none⟩) c w2 (by decide) (by simp) (HV1.out.below hw2).take1) HW2.out)
  clear hw2 HU
  unfold a1S
  cases q2 with
  |false=>
   go_wp2_with fail
   go_ret2
   exact⟨by rw[HR.out];rfl,HW2.out⟩
  |true=>
   go_wp2_with fail
   refine HA.out.mono ?_
   rintro e w3 ⟨rfl,hw3⟩
   go_wp2_with fail
   go_ret2
   exact⟨by rw[HR.out];rfl,hw3⟩
 ·subst h1
  go_enter Tryz.func312,Tryz.ntmps312
  go_upto_region 1 with(fail)
  refine nA fun w1 hB hw1 hz1=>?_
  have HW:=h_ hw1
  have p0:=hB.cell 0 rfl
  have p2:=hB.cell 2 rfl
  have HV1:=h_ (HV.out.below hw1)
  clear hB hw1 hz1 HV
  have HU:=h_ (a3Q kl a c w1 (by omega) HV1.out)
  have HR:Hid (a5L 23 vk kl=a1n kl):=h_ rfl
  generalize a1n kl=q at HU HR
  obtain⟨q1,q2⟩:=q
  go_wp2_with fail
  refine(HU.out).mono ?_
  rintro e w2 ⟨rfl,hw2⟩
  have HW2:=t_ HW hw2
  clear hw2
  unfold a1S
  go_wp2_with fail
  go_ret2
  exact⟨by rw[HR.out];rfl,HW2.out⟩
 ·subst h1
  skip
  go_enter Tryz.func312,Tryz.ntmps312
  go_upto_region 1 with(fail)
  refine nA fun w1 hB hw1 hz1=>?_
  have HW:=h_ hw1
  have p0:=hB.cell 0 rfl
  have p2:=hB.cell 2 rfl
  have HV1:=h_ (HV.out.below hw1)
  clear hB hw1 hz1 HV
  go_wp2_with fail
  refine(a3n kl 1 _ _ w1 (by decide) (by omega) HV1.out).mono ?_
  rintro e w2 ⟨rfl,hw2⟩
  have HW2:=t_ HW hw2
  clear hw2
  go_wp2_with fail
  go_ret2
  exact⟨rfl,HW2.out⟩
theorem b1D(op int vk vi:Int)(vs nm:S)(l:List X)(cs:List Value)(w:World)(kl:List Int)(a:Option Addr)(c:Nat)(ks:List Int)(ak:Option Addr)(ck:Nat)(hkn:¬(arity op).1<0)(h2:op ≠ 2)(h3:op=22->kl.length=3)(hkl:kl.length<=1000000)(hc:kl.length<=c)(hv:SI w kl a)(h:XR w (.mk op int vk vi vs nm l) cs):Calls Tryz.prog 313 #[.agg cs.toArray,.slice a kl.length c,.slice ak ks.length ck] w (Ret w (a1S (a5L op vk kl))):=by
 obtain⟨b,m,rfl,hl,_,_,_⟩:=h.lits
 have HV:=h_ hv
 clear h hl hv
 unfold a1S
 rcases b4b hkn with h1|h1|h1|h1|h1|h1|h1|h1|h1|h1|h1
 ·subst h1
  go_enter Tryz.func313,Tryz.ntmps313
  go_upto_region 1 with(fail)
  refine nA fun w1 hB hw1 hz1=>?_
  have HW:=h_ hw1
  have p0:=hB.cell 0 rfl
  have p2:=hB.cell 2 rfl
  have HV1:=h_ (HV.out.below hw1)
  clear hB hw1 hz1 HV
  go_wp2_with fail
  go_ret2
  exact⟨rfl,HW.out⟩
 ·exact absurd h1 h2
 ·rcases h1 with rfl|rfl|rfl
  all_goals
   go_enter Tryz.func313,Tryz.ntmps313
   go_upto_region 1 with(fail)
   refine nA fun w1 hB hw1 hz1=>?_
   have HW:=h_ hw1
   have p0:=hB.cell 0 rfl
   have p2:=hB.cell 2 rfl
   have HV1:=h_ (HV.out.below hw1)
   clear hB hw1 hz1 HV
   go_wp2_with fail
   refine(a3w kl 3 _ _ w1 (by omega) HV1.out).mono ?_
   rintro e w2 ⟨rfl,hw2⟩
   have HW2:=t_ HW hw2
   clear hw2
   go_wp2_with fail
   go_ret2
   exact⟨rfl,HW2.out⟩
 ·rcases h1 with rfl|rfl|rfl|rfl|rfl|rfl
  all_goals
   go_enter Tryz.func313,Tryz.ntmps313
   go_upto_region 1 with(fail)
   refine nA fun w1 hB hw1 hz1=>?_
   have HW:=h_ hw1
   have p0:=hB.cell 0 rfl
   have p2:=hB.cell 2 rfl
   have HV1:=h_ (HV.out.below hw1)
   clear hB hw1 hz1 HV
   have HU:=h_ (a4I kl a c w1 (by omega) HV1.out)
   have HR:Hid (∀z:Int,(3,(a1n kl).2)=(3,(a1n kl).2)):=h_ fun _=>rfl
   go_wp2_with fail
   refine(HU.out).mono ?_
   rintro e w2 ⟨rfl,hw2⟩
   have HW2:=t_ HW hw2
   clear hw2
   unfold a1S
   go_wp2_with fail
   go_ret2
   exact⟨rfl,HW2.out⟩
 ·rcases h1 with rfl|rfl|rfl|rfl|rfl|rfl
  all_goals
   go_enter Tryz.func313,Tryz.ntmps313
   go_upto_region 1 with(fail)
   refine nA fun w1 hB hw1 hz1=>?_
   have HW:=h_ hw1
   have p0:=hB.cell 0 rfl
   have p2:=hB.cell 2 rfl
   have HV1:=h_ (HV.out.below hw1)
   clear hB hw1 hz1 HV
   go_wp2_with fail
   refine(a3w kl 1 _ _ w1 (by omega) HV1.out).mono ?_
   rintro e w2 ⟨rfl,hw2⟩
   have HW2:=t_ HW hw2
   clear hw2
   go_wp2_with fail
   go_ret2
   exact⟨rfl,HW2.out⟩
 iterate 2
  ·subst h1
   skip
   go_enter Tryz.func313,Tryz.ntmps313
   go_upto_region 1 with(fail)
   refine nA fun w1 hB hw1 hz1=>?_
   have HW:=h_ hw1
   have p0:=hB.cell 0 rfl
   have p2:=hB.cell 2 rfl
   have HV1:=h_ (HV.out.below hw1)
   clear hB hw1 hz1 HV
   go_wp2_with fail
   refine(a3w kl 2 _ _ w1 (by omega) HV1.out).mono ?_
   rintro e w2 ⟨rfl,hw2⟩
   have HW2:=t_ HW hw2
   clear hw2
   go_wp2_with fail
   go_ret2
   exact⟨rfl,HW2.out⟩
 ·subst h1
  go_enter Tryz.func313,Tryz.ntmps313
  go_upto_region 1 with(fail)
  refine nA fun w1 hB hw1 hz1=>?_
  have HW:=h_ hw1
  have p0:=hB.cell 0 rfl
  have p2:=hB.cell 2 rfl
  have HV1:=h_ (HV.out.below hw1)
  clear hB hw1 hz1 HV
  go_wp2_with fail
  go_ret2
  exact⟨rfl,HW.out⟩
 ·subst h1
  obtain⟨x,y,z,rfl⟩:=c2r (h3 rfl)
  simp only[List.length_cons,List.length_nil,Nat.zero_add] at hc hkl |-
  obtain⟨g,o,rfl,_,_⟩:=HV.out.at_ (k:=0) (by simp)
  go_enter Tryz.func313,Tryz.ntmps313
  go_upto_region 1 with(fail)
  refine nA fun w1 hB hw1 hz1=>?_
  have HW:=h_ hw1
  have p0:=hB.cell 0 rfl
  have p2:=hB.cell 2 rfl
  have HV1:=h_ (HV.out.below hw1)
  clear hB hw1 hz1 HV
  have HU:=h_ (a4I [y,z] (some ⟨g,o+1,none⟩) (c - 1) w1 (by simp) HV1.out.drop1)
  have hc1:(3:Int)<=(c:Int):=by omega
  have hc2:(1:Int)<=(c:Int):=by omega
  have hc3:((c - 1:Nat):Int)=(c:Int) - 1:=by omega
  have HR:Hid (a5L 22 vk [x,y,z]=((a1n [y,z]).1,(a1n [y,z]).2&&a1R [x] 3)):=h_ rfl
  generalize a1n [y,z]=q at HU HR
  obtain⟨q1,q2⟩:=q
  go_wp2_with fail
  refine HU.out.mono ?_
  rintro e w2 ⟨rfl,hw2⟩
  have HW2:=t_ HW hw2
  have HA:=h_ (Ret.at_ (a3w [x] 3 (some ⟨g,o,none⟩) c w2 (by simp) (HV1.out.below hw2).take1) HW2.out)
  clear hw2 HU
  unfold a1S
  cases q2 with
  |false=>
   go_wp2_with fail
   go_ret2
   exact⟨by rw[HR.out];rfl,HW2.out⟩
  |true=>
   go_wp2_with fail
   refine HA.out.mono ?_
   rintro e w3 ⟨rfl,hw3⟩
   go_wp2_with fail
   go_ret2
   exact⟨by rw[HR.out];rfl,hw3⟩
 ·subst h1
  go_enter Tryz.func313,Tryz.ntmps313
  go_upto_region 1 with(fail)
  refine nA fun w1 hB hw1 hz1=>?_
  have HW:=h_ hw1
  have p0:=hB.cell 0 rfl
  have p2:=hB.cell 2 rfl
  have HV1:=h_ (HV.out.below hw1)
  clear hB hw1 hz1 HV
  have HU:=h_ (a4I kl a c w1 (by omega) HV1.out)
  have HR:Hid (a5L 23 vk kl=a1n kl):=h_ rfl
  generalize a1n kl=q at HU HR
  obtain⟨q1,q2⟩:=q
  go_wp2_with fail
  refine(HU.out).mono ?_
  rintro e w2 ⟨rfl,hw2⟩
  have HW2:=t_ HW hw2
  clear hw2
  unfold a1S
  go_wp2_with fail
  go_ret2
  exact⟨by rw[HR.out];rfl,HW2.out⟩
 ·subst h1
  skip
  go_enter Tryz.func313,Tryz.ntmps313
  go_upto_region 1 with(fail)
  refine nA fun w1 hB hw1 hz1=>?_
  have HW:=h_ hw1
  have p0:=hB.cell 0 rfl
  have p2:=hB.cell 2 rfl
  have HV1:=h_ (HV.out.below hw1)
  clear hB hw1 hz1 HV
  go_wp2_with fail
  refine(a3w kl 1 _ _ w1 (by omega) HV1.out).mono ?_
  rintro e w2 ⟨rfl,hw2⟩
  have HW2:=t_ HW hw2
  clear hw2
  go_wp2_with fail
  go_ret2
  exact⟨rfl,HW2.out⟩
theorem b2G(int vk vi:Int)(vs nm:S)(l:List X)(cs:List Value)(w:World)(h:XR w (.mk 2 int vk vi vs nm l) cs):Calls Tryz.prog 148 #[.agg cs.toArray] w (Ret w (.bool (a0C 2 int vk vi vs nm l.length))):=by
 have hem:=mkE vs
 have hemn:=mkE nm
 have HPK0:Hid (a0C 2 int vk vi vs nm l.length=((!decide ((l.length:Int)<(arity 2).1) && !decide ((arity 2).2<(l.length:Int))&&nm.isEmpty)&&x_ vk vi vs)):=h_ rfl
 have c1:¬(arity 2).1<0:=by decide
 generalize a0C 2 int vk vi vs nm l.length=ANS at HPK0 |-
 obtain⟨a,m,rfl,hl,_,_,hlen⟩:=h.lits
 clear h hl
 go_enter Tryz.func148,Tryz.ntmps148
 go_upto_region 1 with(fail)
 refine nA fun w0 hB hw0 hz0=>?_
 have HW0:=h_ hw0
 have HB0:=h_ hB
 have p0:=hB.cell 0 rfl
 clear hB hw0 hz0
 go_wp2_with fail
 refine(a3M 2 w0).mono ?_
 rintro e w1 ⟨rfl,hw1⟩
 have HBk:=h_ (HB0.out.below hw1)
 have HW:=t_ HW0 hw1
 clear hw1 p0 HB0 HW0
 generalize(arity 2).1=lo at HPK0 c1 |-
 generalize(arity 2).2=hi at HPK0 |-
 have p0:=HBk.out.cell 0 rfl
 have p5:=HBk.out.cell 5 rfl
 have p6:=HBk.out.cell 6 rfl
 by_cases c2:(l.length:Int)<lo
 ·have HF:Hid (ANS=false):=h_ (by rw[HPK0.out,decide_eq_true c2];rfl)
  go_wp2_with fail
  go_ret
  exact⟨by rw[HF.out];rfl,HW.out⟩
 by_cases c3:hi<(l.length:Int)
 ·have HF:Hid (ANS=false):=h_ (by rw[HPK0.out,decide_eq_false c2,decide_eq_true c3];rfl)
  go_wp2_with fail
  go_ret
  exact⟨by rw[HF.out];rfl,HW.out⟩
 cases hn:nm.isEmpty with
 |false=>
  rw[hn] at hemn
  have HF:Hid (ANS=false):=h_ (by rw[HPK0.out,hn,Bool.and_false];rfl)
  go_wp2_with fail
  go_ret
  exact⟨by rw[HF.out];rfl,HW.out⟩
 |true=>
  rw[hn] at hemn
  have HPK:Hid (ANS=x_ vk vi vs):=h_ (by rw[HPK0.out,decide_eq_false c2,decide_eq_false c3,hn];rfl)
  clear HPK0
  go_upto_region 8 with(fail)
  have hb0:Below w1.heap.size w1 {w1 with drawn:=w1.drawn+1}:=belowD w1 1
  refine Gr.f_ 4 (by kernel_rfl) (by kernel_rfl) (fun w'=>Below w1.heap.size w1 w') hb0 ?_
  simp only[List.take_succ_cons,List.take_zero,List.drop_succ_cons,List.drop_zero]
  clear p0 hb0
  iterate 4
   first
   |apply Gr.sn (.agg #[.int .i64 0,.int .i64 0,.string ⟨#[]⟩]);focus(go_simp;intro w' hw';go_simp;rw[Gr.b_];exact Ret.fam (a0x w') hw';done)
   |apply Gr.sn (.bool (x_ vk vi vs));focus(go_simp;intro w' hw';go_simp;by_cases z1:vk=0<;>by_cases z2:vi=0<;>by_cases z3:vs=[]<;>simp[z1,z2,z3,Gr.a_,x_];done)
   |apply Gr.sn;focus(go_simp;intro w' hw';go_simp;rw[Gr.a_];done)
   |apply Gr.sn;focus(go_simp;intro w' hw';have p2:=(HBk.out.below hw').cell 2 rfl;have p3:=(HBk.out.below hw').cell 3 rfl;have p4:=(HBk.out.below hw').cell 4 rfl;go_simp;rw[Gr.a_];done)
   intro K hK;go_simp;refine hK _ ?_;clear hK K
  cases hB:x_ vk vi vs
  iterate 2
   ·have HB0:=h_ hB
    clear hB
    refine Gr.o_ fun w4 hw4=>?_
    have HW4:=t_ HW hw4
    clear hw4
    go_wp2_with fail
    go_ret
    refine⟨congrArg (fun z=>Ending.returned (.bool z)) ?_,HW4.out⟩
    rw[HPK.out,HB0.out]
    try rfl
theorem b0l(int vk vi:Int)(vs nm:S)(l:List X)(cs:List Value)(w:World)(h:XR w (.mk 24 int vk vi vs nm l) cs):Calls Tryz.prog 148 #[.agg cs.toArray] w (Ret w (.bool (a0C 24 int vk vi vs nm l.length))):=by
 have hem:=mkE vs
 have hemn:=mkE nm
 have HPK0:Hid (a0C 24 int vk vi vs nm l.length=((!decide ((l.length:Int)<(arity 24).1) && !decide ((arity 24).2<(l.length:Int))&&nm.isEmpty)&&(x_ vk vi vs&&(decide (0<=int)&&decide (int<13))))):=h_ rfl
 have c1:¬(arity 24).1<0:=by decide
 generalize a0C 24 int vk vi vs nm l.length=ANS at HPK0 |-
 obtain⟨a,m,rfl,hl,_,_,hlen⟩:=h.lits
 clear h hl
 go_enter Tryz.func148,Tryz.ntmps148
 go_upto_region 1 with(fail)
 refine nA fun w0 hB hw0 hz0=>?_
 have HW0:=h_ hw0
 have HB0:=h_ hB
 have p0:=hB.cell 0 rfl
 clear hB hw0 hz0
 go_wp2_with fail
 refine(a3M 24 w0).mono ?_
 rintro e w1 ⟨rfl,hw1⟩
 have HBk:=h_ (HB0.out.below hw1)
 have HW:=t_ HW0 hw1
 clear hw1 p0 HB0 HW0
 generalize(arity 24).1=lo at HPK0 c1 |-
 generalize(arity 24).2=hi at HPK0 |-
 have p0:=HBk.out.cell 0 rfl
 have p5:=HBk.out.cell 5 rfl
 have p6:=HBk.out.cell 6 rfl
 by_cases c2:(l.length:Int)<lo
 ·have HF:Hid (ANS=false):=h_ (by rw[HPK0.out,decide_eq_true c2];rfl)
  go_wp2_with fail
  go_ret
  exact⟨by rw[HF.out];rfl,HW.out⟩
 by_cases c3:hi<(l.length:Int)
 ·have HF:Hid (ANS=false):=h_ (by rw[HPK0.out,decide_eq_false c2,decide_eq_true c3];rfl)
  go_wp2_with fail
  go_ret
  exact⟨by rw[HF.out];rfl,HW.out⟩
 cases hn:nm.isEmpty with
 |false=>
  rw[hn] at hemn
  have HF:Hid (ANS=false):=h_ (by rw[HPK0.out,hn,Bool.and_false];rfl)
  go_wp2_with fail
  go_ret
  exact⟨by rw[HF.out];rfl,HW.out⟩
 |true=>
  rw[hn] at hemn
  have HPK:Hid (ANS=(x_ vk vi vs&&(decide (0<=int)&&decide (int<13)))):=h_ (by rw[HPK0.out,decide_eq_false c2,decide_eq_false c3,hn];rfl)
  clear HPK0
  go_upto_region 10 with(fail)
  have hb0:Below w1.heap.size w1 {w1 with drawn:=w1.drawn+1}:=belowD w1 1
  refine Gr.f_ 14 (by kernel_rfl) (by kernel_rfl) (fun w'=>Below w1.heap.size w1 w') hb0 ?_
  simp only[List.take_succ_cons,List.take_zero,List.drop_succ_cons,List.drop_zero]
  clear p0 hb0
  iterate 4
   first
   |apply Gr.sn (.agg #[.int .i64 0,.int .i64 0,.string ⟨#[]⟩]);focus(go_simp;intro w' hw';go_simp;rw[Gr.b_];exact Ret.fam (a0x w') hw';done)
   |apply Gr.sn (.bool (x_ vk vi vs));focus(go_simp;intro w' hw';go_simp;by_cases z1:vk=0<;>by_cases z2:vi=0<;>by_cases z3:vs=[]<;>simp[z1,z2,z3,Gr.a_,x_];done)
   |apply Gr.sn;focus(go_simp;intro w' hw';go_simp;rw[Gr.a_];done)
   |apply Gr.sn;focus(go_simp;intro w' hw';have p2:=(HBk.out.below hw').cell 2 rfl;have p3:=(HBk.out.below hw').cell 3 rfl;have p4:=(HBk.out.below hw').cell 4 rfl;go_simp;rw[Gr.a_];done)
   intro K hK;go_simp;refine hK _ ?_;clear hK K
  cases hB:x_ vk vi vs
  ·have HB0:=h_ hB
   clear hB
   iterate 10
    first
    |apply Gr.sn undef;focus(go_simp;done)
    |apply Gr.sn;focus(go_simp;intro w' hw';go_simp;rw[Gr.a_];done)
    intro K hK;go_simp;refine hK _ ?_;clear hK K
   refine Gr.o_ fun w4 hw4=>?_
   have HW4:=t_ HW hw4
   clear hw4
   go_wp2_with fail
   go_ret
   refine⟨congrArg (fun z=>Ending.returned (.bool z)) ?_,HW4.out⟩
   rw[HPK.out,HB0.out]
   try rfl
  ·have HB0:=h_ hB
   clear hB
   iterate 4
    first
    |apply Gr.sn (.bool (decide (0<=int)));focus((go_simp;intro w' hw';go_simp;rw[Gr.a_];all_goals((first|rfl|(refine congrArg Value.bool ?_;first|rfl|simp|(rw[Bool.eq_iff_iff];simp;omega)))));done)
    |apply Gr.sn;focus(go_simp;intro w' hw';go_simp;rw[Gr.a_];done)
    |apply Gr.sn;focus(go_simp;intro w' hw';have p1:=(HBk.out.below hw').cell 1 rfl;go_simp;rw[Gr.a_];done)
    intro K hK;go_simp;refine hK _ ?_;clear hK K
   cases hB:decide (0<=int)
   ·have HB1:=h_ hB
    clear hB
    iterate 6
     first
     |apply Gr.sn undef;focus(go_simp;done)
     |apply Gr.sn;focus(go_simp;intro w' hw';go_simp;rw[Gr.a_];done)
     intro K hK;go_simp;refine hK _ ?_;clear hK K
    refine Gr.o_ fun w4 hw4=>?_
    have HW4:=t_ HW hw4
    clear hw4
    go_wp2_with fail
    go_ret
    refine⟨congrArg (fun z=>Ending.returned (.bool z)) ?_,HW4.out⟩
    rw[HPK.out,HB0.out,HB1.out]
    try rfl
   ·have HB1:=h_ hB
    clear hB
    iterate 5
     first
     |apply Gr.sn (.bool (decide (int<13)));focus((go_simp;intro w' hw';go_simp;rw[Gr.a_];all_goals((first|rfl|(refine congrArg Value.bool ?_;first|rfl|simp|(rw[Bool.eq_iff_iff];simp;omega)))));done)
     |apply Gr.sn;focus(go_simp;intro w' hw';go_simp;rw[Gr.a_];done)
     |apply Gr.sn;focus(go_simp;intro w' hw';have p1:=(HBk.out.below hw').cell 1 rfl;go_simp;rw[Gr.a_];done)
     intro K hK;go_simp;refine hK _ ?_;clear hK K
    cases hB:decide (int<13)
    iterate 2
     ·have HB2:=h_ hB
      clear hB
      refine Gr.sn _ (by go_simp;intro w' hw';go_simp;rw[Gr.a_]) fun K hK=>?_;go_simp;refine hK _ ?_;clear hK K
      refine Gr.o_ fun w4 hw4=>?_
      have HW4:=t_ HW hw4
      clear hw4
      go_wp2_with fail
      go_ret
      refine⟨congrArg (fun z=>Ending.returned (.bool z)) ?_,HW4.out⟩
      rw[HPK.out,HB0.out,HB1.out,HB2.out]
      try rfl
theorem b3b{op int vk vi:Int}{vs nm:S}{n:Nat}(hk:¬(arity op).1<0)(h2:op ≠ 2)(h24:op ≠ 24):a2w op int vk vi vs nm n=a0C op int vk vi vs nm n:=by
 unfold a2w a0C b0c
 rw[if_neg h2,if_neg h24,decide_eq_false hk]
 generalize(if op=1 then decide (int=0)&&G_ vk vi vs else decide (int=0)&&x_ vk vi vs)=z
 cases decide ((n:Int)<(arity op).1)<;>cases decide ((arity op).2<(n:Int))<;>cases nm.isEmpty<;>rfl
theorem b5q(op int vk vi:Int)(vs nm:S)(l:List X)(cs:List Value)(w:World)(hk:¬(arity op).1<0)(hvs:vs.length<4294967281)(h:XR w (.mk op int vk vi vs nm l) cs):Calls Tryz.prog 148 #[.agg cs.toArray] w (Ret w (.bool (a0C op int vk vi vs nm l.length))):=by
 by_cases h2:op=2
 ·subst h2;exact b2G int vk vi vs nm l cs w h
 by_cases h24:op=24
 ·subst h24;exact b0l int vk vi vs nm l cs w h
 rw[<-b3b hk h2 h24]
 exact a7D h (fun _ _ _ _ _ _ _ e=>by injection e with e0 _ _ _ e4;subst e0 e4;exact⟨h2,h24,hvs⟩) op int vk vi vs nm l rfl
theorem c1q{n:Nat}{int vk vi:Int}{vs nm:S}(h:a0C 22 int vk vi vs nm n=true):n=3:=by
 unfold a0C b0c at h
 have e:arity 22=(3,3):=rfl
 rw[e] at h
 simp only[Bool.and_eq_true,Bool.not_eq_true',decide_eq_false_iff_not] at h
 omega
theorem a7m{K:World->Prop}{w:World}{B n:Nat}{cs:Array Value}(hb:B<=w.heap.size)(hm:n<=maxLen)(hs:cs.size=n*1)(h:∀w',w'.ownsRow B 3 1 (.slice (some ⟨w.heap.size,0,none⟩) n n) n cs.toList->Below w.heap.size w w'->K w'):K (w.alloc (.cells cs 3)):=
 h _ (World.ownsRow_lit w cs n hb hm hs) (d_ w _)
theorem cnt2{n:Nat}{int vk vi:Int}{vs nm:S}(h:a0C 2 int vk vi vs nm n=true):n=0:=by
 unfold a0C b0c at h
 have e:arity 2=(0,0):=rfl
 rw[e] at h
 simp only[Bool.and_eq_true,Bool.not_eq_true',decide_eq_false_iff_not] at h
 omega
theorem b4x(N:Nat)(HI:∀(x:X) (cs:List Value) (w:World) (ks:List Int) (ak:Option Addr) (ck:Nat),nodes x<=N->D_ x->ks.length<=1000000->SI w ks ak->XR w x cs->Calls Tryz.prog 268 #[.agg cs.toArray,.slice ak ks.length ck] w (Ret w (a2m (tc ks x))))(op int vk vi:Int)(vs nm:S)(l:List X)(cs:List Value)(w:World)(ks:List Int)(ak:Option Addr)(ck:Nat)(hn:j_ l<=N)(hN:N<=1000000)(hsh:vs.length<4294967281/\nm.length<4294967281)(hshl:a0M l)(hks:ks.length<=1000000)(hv:SI w ks ak)(h:XR w (.mk op int vk vi vs nm l) cs) :
  Calls Tryz.prog 268 #[.agg cs.toArray,.slice ak ks.length ck] w (Ret w (a2m (tc ks (.mk op int vk vi vs nm l)))):=by
 obtain⟨i0,hi0,hz0,hz1,hz2⟩:=info_parts a4L
 have HI:=h_ HI
 have HSH:=h_ hshl
 have HV:=h_ hv
 have hll:l.length<=1000000:=Nat.le_trans (a0B l) (by omega)
 have HPD:Hid (tc ks (.mk op int vk vi vs nm l)=if(arity op).1<0 then(0,7) else if a0C op int vk vi vs nm l.length=false then(0,8) else if op=2 then(if 0<=int/\int<ks.length then(ks.getD int.toNat 0,0) else(0,13)) else tcE op vk (tcs ks l)):=h_ (by rw[tc])
 have HWL:=h_ fun(hk:¬(arity op).1<0) (w':World) (hw':Below w.heap.size w w')=>b2o op int vk vi vs nm l cs w' hk (by omega) (by omega) (h.kept hw' (Nat.le_refl _))
 have HRS:=h_ fun(hk:¬(arity op).1<0) (h2:op ≠ 2) (kl:List Int) (a:Option Addr) (c:Nat) (h3:op=22->kl.length=3) (hkl:kl.length<=1000000) (hc:kl.length<=c) (w':World) (hw':Below w.heap.size w w') (hs:SI w' kl a)=>b1t op int vk vi vs nm l cs w' kl a c hk h2 h3 hkl hc hs (h.kept hw' (Nat.le_refl _))
 have H02:=h_ fun(h:a0C op int vk vi vs nm l.length=true) (e:op=2)=>cnt2 (n:=l.length) (int:=int) (vk:=vk) (vi:=vi) (vs:=vs) (nm:=nm) (by rw[e] at h;exact h)
 have H22:=h_ fun(h:a0C op int vk vi vs nm l.length=true) (e:op=22)=>c1q (n:=l.length) (int:=int) (vk:=vk) (vi:=vi) (vs:=vs) (nm:=nm) (by rw[e] at h;exact h)
 obtain⟨a,m,rfl,hl,_,_,_⟩:=h.lits
 have HL:=h_ hl
 clear h hl hshl hv
 generalize tc ks (.mk op int vk vi vs nm l)=ANS at HPD |-
 generalize a0C op int vk vi vs nm l.length=wb at HPD HWL H22 H02
 go_enter Tryz.func268,Tryz.ntmps268
 go_upto_region 1 with(fail)
 refine nA fun w1 hB hw1 hz1=>?_
 have HW:=h_ hw1
 have HBk:=h_ hB
 have p0:=hB.cell 0 rfl
 have p6:=hB.cell 6 rfl
 clear hB hw1 hz1
 go_wp2_with fail
 refine(a7H op l.length w1 (by omega)).mono ?_
 rintro e w2 ⟨rfl,hw2⟩
 have HB2:=h_ (HBk.out.below hw2)
 have HW2:=t_ HW hw2
 clear hw2 HBk HW p0 p6
 by_cases hk:(arity op).1<0
 ·have HF:Hid (ANS=(0,7)):=h_ (by rw[HPD.out,if_pos hk])
  rw[decide_eq_true hk]
  clear HPD HWL HRS
  go_wp2_with fail
  go_ret2
  exact⟨by rw[HF.out];rfl,HW2.out⟩
 have HP1:Hid (ANS=if wb=false then(0,8) else if op=2 then(if 0<=int/\int<ks.length then(ks.getD int.toNat 0,0) else(0,13)) else tcE op vk (tcs ks l)):=h_ (by rw[HPD.out,if_neg hk])
 have HW3:=h_ (HWL.out (by omega) w2 HW2.out)
 have HR3:=h_ (HRS.out (by omega))
 rw[decide_eq_false hk]
 simp only[Bool.not_false,Bool.and_true]
 generalize b0c op l.length=cb
 clear HPD HWL HRS
 obtain⟨p0,p1,p2,p3,p4,p5,p6⟩:=HB2.out.c7
 go_wp2_with fail
 refine HW3.out.mono ?_
 rintro e w3 ⟨rfl,hw3⟩
 have HB3:=h_ (HB2.out.below hw3)
 have HW4:=t_ HW2 hw3
 clear hw3 HB2 HW2 HW3 p0 p1 p2 p3 p4 p5 p6
 cases wb with
 |false=>
  have HF:Hid (ANS=(0,8)):=h_ (by rw[HP1.out];rfl)
  clear HP1 HR3
  go_wp2_with fail
  go_ret2
  exact⟨by rw[HF.out];rfl,HW4.out⟩
 |true=>
  have HP2:Hid (ANS=if op=2 then(if 0<=int/\int<ks.length then(ks.getD int.toNat 0,0) else(0,13)) else tcE op vk (tcs ks l)):=h_ (by rw[HP1.out];rfl)
  have H3:=h_ (H22.out rfl)
  have HL2:=h_ (H02.out rfl)
  clear HP1 H22 H02
  have p0:=HB3.out.cell 0 rfl
  have p1:=HB3.out.cell 1 rfl
  have p6:=HB3.out.cell 6 rfl
  by_cases h2:op=2
  ·subst h2
   have HP3:Hid (ANS=if 0<=int/\int<ks.length then(ks.getD int.toNat 0,0) else(0,13)):=h_ (by rw[HP2.out,if_pos rfl])
   clear HP2 HR3
   by_cases hlo:int<0
   ·have HF:Hid (ANS=(0,13)):=h_ (by rw[HP3.out,if_neg (by omega)])
    clear HP3
    go_wp2_with fail
    go_ret2
    exact⟨by rw[HF.out];rfl,HW4.out⟩
   by_cases hhi:(ks.length:Int)<=int
   ·have HF:Hid (ANS=(0,13)):=h_ (by rw[HP3.out,if_neg (by omega)])
    clear HP3
    go_wp2_with fail
    go_ret2
    exact⟨by rw[HF.out];rfl,HW4.out⟩
   obtain⟨q,rfl⟩:=Int.eq_ofNat_of_zero_le (by omega:0<=int)
   have hql:q<ks.length:=by omega
   have HF:Hid (ANS=(ks[q],0)):=h_ (by rw[HP3.out,if_pos ⟨by omega,by omega⟩];simp[hql])
   clear HP3
   obtain⟨g,o,rfl,hg,hc0⟩:=HV.out.at_ hql
   have hc:=(HW4.out.cell (p:=⟨g,o+q,none⟩) hg).trans hc0
   have j0:(0:Int)<=(q:Int):=by omega
   have j1:(q:Int)<(ks.length:Int):=by omega
   clear hc0
   generalize ks[q]=kq at hc HF
   go_wp2_with fail
   go_ret2
   exact⟨by rw[HF.out];rfl,HW4.out⟩
  ·have h2b:(op==2)=false:=by simpa using h2
   have HP3:Hid (ANS=tcE op vk (tcs ks l)):=h_ (by rw[HP2.out,if_neg h2])
   have HR4:=h_ (HR3.out h2)
   clear HP2 HR3
   go_upto_region 12 with(fail)
   clear p0 p1 p6
   go_loopw [8,11,12,50] (fun v _ _ i wr=>∃(k:Nat) (m:List Int),k<=l.length/\i=.int .i64 (k:Int)/\tcs ks (l.take k)=.inl m/\a0v w3.heap.size v m wr/\Below w3.heap.size w3 wr) (fun _ _ _ i _=>l.length - (intOf i).toNat)
   case atStart=>exact⟨0,[],Nat.zero_le _,rfl,rfl,a0v.nil _ _,Below.refl _ _⟩
   case round=>
    obtain⟨k,m2,hk2,rfl,ht,ho,hb⟩:=hrel
    have HT:=h_ ht
    have HO:=h_ ho
    have HB:=h_ hb
    have HWb:=t_ HW4 hb
    have hlt2:∀g,u8.ownBlock=some g->w3.heap.size<=g:=fun g e=>(ho.lt g e).1
    clear ht ho hb
    by_cases hlt:k<l.length
    ·obtain⟨g,o,us,eq,hec,hkx,hrx⟩:=HL.out.ec hlt
     subst eq
     have HX:Hid (XR w l[k] us):=h_ hrx
     obtain⟨eop,eint,evk,evi,evs,enm,el,ee⟩:∃eop eint evk evi evs enm el,l[k]=X.mk eop eint evk evi evs enm el:=by
      cases l[k]
      exact⟨_,_,_,_,_,_,_,rfl⟩
     have hrx2:XR w (X.mk eop eint evk evi evs enm el) us:=ee ▸ hrx
     obtain⟨ea,em,rfl,_⟩:=hrx2.lits
     have r0:=hec.at0 HWb.out (u:=_) rfl
     have r1:=hec.at_ HWb.out (j:=1) rfl
     have r2:=hec.at_ HWb.out (j:=2) rfl
     have r3:=hec.at_ HWb.out (j:=3) rfl
     have r4:=hec.at_ HWb.out (j:=4) rfl
     have r5:=hec.at_ HWb.out (j:=5) rfl
     have r6:=hec.at_ HWb.out (j:=6) rfl
     have gl:g<wr.heap.size:=by have:=HWb.out.size;have:=hec.1;omega
     have hle:=M_ (List.getElem_mem (l:=l) hlt)
     have hsx:=a1V HSH.out (List.getElem_mem (l:=l) hlt)
     have hml:m2.length<=1000000:=by have:=a6a HT.out;rw[List.length_take] at this;omega
     have HC:=h_ fun(w':World) (hw':Below w.heap.size w w')=>HI.out l[k] _ w' ks ak ck (by omega) hsx hks (HV.out.below hw') (HX.out.kept hw' (Nat.le_refl _))
     have c2:(k:Int)<(l.length:Int):=by omega
     have c3:(0:Int)<=(k:Int):=by omega
     have HT0:=h_ (b6v (ks:=ks) hlt HT.out)
     have HT1:=h_ (b3T (ks:=ks) hlt HT.out)
     clear hec hrx hrx2 ee HX hsx hle
     generalize tc ks l[k]=q at HC HT0 HT1
     obtain⟨q1,q2⟩:=q
     go_wp2_with fail
     refine(HC.out _ (HWb.out.trans ((d_ wr _).mono HWb.out.size))).mono ?_
     rintro e' w4 ⟨rfl,hw4⟩
     have HB4:=h_ ((HB.out.trans ((d_ wr _).mono HB.out.size)).trans (hw4.mono (by have:=HB.out.size;simp;omega)))
     have HW5:=h_ (HW4.out.trans (HB4.out.mono HW4.out.size))
     have HO4:=h_ (a0v.below (a0v.below HO.out (d_ wr _)) hw4)
     clear hw4 HO HB HWb HC r0 r1 r2 r3 r4 r5 r6
     unfold a2m
     by_cases hq:q2=0
     ·subst hq
      have HT2:Hid (tcs ks (l.take (k+1))=.inl (m2++[q1])):=h_ (by rw[HT1.out];rfl)
      clear HT0 HT1
      go_wp2_with (at_builtin;refine wpList_append_own_at _ rfl (.tmp 63) (.tmp 65) 50 rfl w3.heap.size 3 i0 _ 1 8 Tryz.underlying50 hi0 hz0 hz1 hz2 rfl (by omega) u8 m2.length _ rfl (World.ownsRow.alloc HO4.out _) ⟨w4.heap.size,0,none⟩ 1 1 [.int .i64 q1] rfl rfl (a1d _ _ _) (fun u hu=>by obtain rfl:=List.mem_singleton.1 hu;rfl) (by unfold maxLen;omega) (by omega) (Nat.le_trans HB4.out.size (by simp)) ?_)
      intro v3 w5 hown3 hg3 _ hat3
      have hb5:Below w3.heap.size w3 w5:=(HB4.out.alloc HB4.out.size _).grown hg3 (Nat.le_trans HB4.out.size (by simp)) hlt2
      have HO3:Hid (a0v w3.heap.size v3 (m2++[q1]) w5):=h_ (a0v.snoc hown3)
      clear hown3 hg3 hat3
      go_wp2_with fail
      go_roundw
      case rel=>exact⟨k+1,m2++[q1],by omega,by go_num,HT2.out,HO3.out,hb5⟩
      case measure=>simp[intOf];omega
     ·have hqb:(q2 != 0)=true:=by simpa using hq
      have hqc:(q2==0)=false:=by simpa using hq
      have HF:Hid (ANS=(0,q2)):=h_ (by rw[HP3.out,HT0.out hq];rfl)
      clear HT0 HT1 HP3
      go_wp2_with fail
      go_ret2
      exact⟨by rw[HF.out];rfl,HW5.out⟩
    ·obtain rfl:k=l.length:=by omega
     have ht:=HT.out
     rw[List.take_length] at ht
     have d1:decide ((l.length:Int)<(l.length:Int))=false:=decide_eq_false (by omega)
     have HF:Hid (ANS=if(a5L op vk m2).2 then((a5L op vk m2).1,0) else(0,7)):=h_ (by rw[HP3.out,ht];rfl)
     have hml:=a6a ht
     have ho:=HO.out
     obtain⟨a2,c2,rfl,hs⟩:=ho.form
     have HRC:=h_ (Ret.at_ (HR4.out m2 a2 c2 (fun e=>by rw[hml];exact H3.out e) (by omega) ho.cap wr HWb.out hs) HWb.out)
     have HBr:=h_ (HB3.out.below HB.out)
     clear ht ho hs HP3 HR4 HO HT hml
     generalize a5L op vk m2=q at HRC HF
     obtain⟨q1,q2⟩:=q
     obtain⟨p0,p1,p2,p3,p4,p5,p6⟩:=HBr.out.c7
     go_wp2_with fail
     refine HRC.out.mono ?_
     rintro e' w4 ⟨rfl,hw4⟩
     have HW5:=h_ hw4
     clear hw4 HRC HBr p0 p1 p2 p3 p4 p5 p6
     unfold a1S
     cases q2 with
     |false=>
      go_wp2_with fail
      go_ret2
      exact⟨by rw[HF.out];rfl,HW5.out⟩
     |true=>
      go_wp2_with fail
      go_ret2
      exact⟨by rw[HF.out];rfl,HW5.out⟩
theorem b4l(op int vk vi:Int)(vs nm:S)(l:List X)(cs:List Value)(w:World)(q:Nat)(ks:List Int)(ak:Option Addr)(ck:Nat)(e:op=2)(e2:q<ks.length)(hi:int=(q:Int))(bb:Option Addr)(cc:Nat)(hv:SI w ks ak)(h:XR w (.mk op int vk vi vs nm l) cs):Calls Tryz.prog 313 #[.agg cs.toArray,.slice bb 0 cc,.slice ak ks.length ck] w (Ret w (a1S (ks[q],true))):=by
 subst e hi
 obtain⟨b,m,rfl,hl,_,_,_⟩:=h.lits
 obtain⟨g,o,rfl,hg,hc0⟩:=hv.at_ e2
 have HG:=h_ hc0
 generalize ks[q]=kq at HG |-
 have j0:(0:Int)<=(q:Int):=by omega
 have j1:(q:Int)<(ks.length:Int):=by omega
 clear h hl hv hc0
 unfold a1S
 go_enter Tryz.func313,Tryz.ntmps313
 go_upto_region 1 with(fail)
 refine nA fun w1 hB hw1 hz1=>?_
 have HW:=h_ hw1
 have p0:=hB.cell 0 rfl
 have p1:=hB.cell 1 rfl
 have hc:=(hw1.cell (p:=⟨g,o+q,none⟩) hg).trans HG.out
 clear hB hw1 hz1
 go_wp2_with fail
 go_ret2
 exact⟨rfl,HW.out⟩
theorem b3m(N:Nat)(HI:∀(x:X) (cs:List Value) (w:World) (ks:List Int) (ak:Option Addr) (ck:Nat),nodes x<=N->D_ x->ks.length<=1000000->SI w ks ak->XR w x cs->Calls Tryz.prog 269 #[.agg cs.toArray,.slice ak ks.length ck] w (Ret w (a2m (tc ks x))))(op int vk vi:Int)(vs nm:S)(l:List X)(cs:List Value)(w:World)(ks:List Int)(ak:Option Addr)(ck:Nat)(hn:j_ l<=N)(hN:N<=1000000)(hsh:vs.length<4294967281/\nm.length<4294967281)(hshl:a0M l)(hks:ks.length<=1000000)(hv:SI w ks ak)(h:XR w (.mk op int vk vi vs nm l) cs) :
  Calls Tryz.prog 269 #[.agg cs.toArray,.slice ak ks.length ck] w (Ret w (a2m (tc ks (.mk op int vk vi vs nm l)))):=by
 obtain⟨i0,hi0,hz0,hz1,hz2⟩:=info_parts a4L
 have HI:=h_ HI
 have HSH:=h_ hshl
 have HV:=h_ hv
 have hll:l.length<=1000000:=Nat.le_trans (a0B l) (by omega)
 have HPD:Hid (tc ks (.mk op int vk vi vs nm l)=if(arity op).1<0 then(0,7) else if a0C op int vk vi vs nm l.length=false then(0,8) else if op=2 then(if 0<=int/\int<ks.length then(ks.getD int.toNat 0,0) else(0,13)) else tcE op vk (tcs ks l)):=h_ (by rw[tc])
 have HWL:=h_ fun(hk:¬(arity op).1<0) (w':World) (hw':Below w.heap.size w w')=>b5q op int vk vi vs nm l cs w' hk hsh.1 (h.kept hw' (Nat.le_refl _))
 have HRS:=h_ fun(hk:¬(arity op).1<0) (h2:op ≠ 2) (kl:List Int) (a:Option Addr) (c:Nat) (h3:op=22->kl.length=3) (hkl:kl.length<=1000000) (hc:kl.length<=c) (w':World) (hw':Below w.heap.size w w') (hs:SI w' kl a)=>b1D op int vk vi vs nm l cs w' kl a c ks ak ck hk h2 h3 hkl hc hs (h.kept hw' (Nat.le_refl _))
 have HRC2:=h_ fun(q:Nat) (e:op=2) (e2:q<ks.length) (hi:int=(q:Int)) (bb:Option Addr) (cc:Nat) (w':World) (hw':Below w.heap.size w w')=>b4l op int vk vi vs nm l cs w' q ks ak ck e e2 hi bb cc (hv.below hw') (h.kept hw' (Nat.le_refl _))
 have H02:=h_ fun(h:a0C op int vk vi vs nm l.length=true) (e:op=2)=>cnt2 (n:=l.length) (int:=int) (vk:=vk) (vi:=vi) (vs:=vs) (nm:=nm) (by rw[e] at h;exact h)
 have H22:=h_ fun(h:a0C op int vk vi vs nm l.length=true) (e:op=22)=>c1q (n:=l.length) (int:=int) (vk:=vk) (vi:=vi) (vs:=vs) (nm:=nm) (by rw[e] at h;exact h)
 obtain⟨a,m,rfl,hl,_,_,_⟩:=h.lits
 have HL:=h_ hl
 clear h hl hshl hv
 generalize tc ks (.mk op int vk vi vs nm l)=ANS at HPD |-
 generalize a0C op int vk vi vs nm l.length=wb at HPD HWL H22 H02
 go_enter Tryz.func269,Tryz.ntmps269
 go_upto_region 1 with(fail)
 refine nA fun w1 hB hw1 hz1=>?_
 have HW:=h_ hw1
 have HBk:=h_ hB
 have p0:=hB.cell 0 rfl
 have p6:=hB.cell 6 rfl
 clear hB hw1 hz1
 go_wp2_with fail
 refine(a3M op w1).mono ?_
 rintro e w2 ⟨rfl,hw2⟩
 have HB2:=h_ (HBk.out.below hw2)
 have HW2:=t_ HW hw2
 clear hw2 HBk HW p0 p6
 by_cases hk:(arity op).1<0
 ·have HF:Hid (ANS=(0,7)):=h_ (by rw[HPD.out,if_pos hk])
  generalize(arity op).1=lo at hk |-
  generalize(arity op).2=hi
  clear HPD HWL HRS
  go_wp2_with fail
  go_ret2
  exact⟨by rw[HF.out];rfl,HW2.out⟩
 have HP1:Hid (ANS=if wb=false then(0,8) else if op=2 then(if 0<=int/\int<ks.length then(ks.getD int.toNat 0,0) else(0,13)) else tcE op vk (tcs ks l)):=h_ (by rw[HPD.out,if_neg hk])
 have HW3:=h_ (HWL.out (by omega) w2 HW2.out)
 have HR3:=h_ (HRS.out (by omega))
 generalize(arity op).1=lo at hk |-
 generalize(arity op).2=hi
 clear HPD HWL HRS
 obtain⟨p0,p1,p2,p3,p4,p5,p6⟩:=HB2.out.c7
 go_wp2_with fail
 refine HW3.out.mono ?_
 rintro e w3 ⟨rfl,hw3⟩
 have HB3:=h_ (HB2.out.below hw3)
 have HW4:=t_ HW2 hw3
 clear hw3 HB2 HW2 HW3 p0 p1 p2 p3 p4 p5 p6
 cases wb with
 |false=>
  have HF:Hid (ANS=(0,8)):=h_ (by rw[HP1.out];rfl)
  clear HP1 HR3
  go_wp2_with fail
  go_ret2
  exact⟨by rw[HF.out];rfl,HW4.out⟩
 |true=>
  have HP2:Hid (ANS=if op=2 then(if 0<=int/\int<ks.length then(ks.getD int.toNat 0,0) else(0,13)) else tcE op vk (tcs ks l)):=h_ (by rw[HP1.out];rfl)
  have H3:=h_ (H22.out rfl)
  have HL2:=h_ (H02.out rfl)
  clear HP1 H22 H02
  have p0:=HB3.out.cell 0 rfl
  have p1:=HB3.out.cell 1 rfl
  have p6:=HB3.out.cell 6 rfl
  by_cases h2:op=2
  ·subst h2
   have HP3:Hid (ANS=if 0<=int/\int<ks.length then(ks.getD int.toNat 0,0) else(0,13)):=h_ (by rw[HP2.out,if_pos rfl])
   clear HP2 HR3
   by_cases hlo:int<0
   ·have HF:Hid (ANS=(0,13)):=h_ (by rw[HP3.out,if_neg (by omega)])
    clear HP3
    go_wp2_with fail
    go_ret2
    exact⟨by rw[HF.out];rfl,HW4.out⟩
   by_cases hhi:(ks.length:Int)<=int
   ·have HF:Hid (ANS=(0,13)):=h_ (by rw[HP3.out,if_neg (by omega)])
    clear HP3
    go_wp2_with fail
    go_ret2
    exact⟨by rw[HF.out];rfl,HW4.out⟩
   obtain⟨q,rfl⟩:=Int.eq_ofNat_of_zero_le (by omega:0<=int)
   have hql:q<ks.length:=by omega
   have HF:Hid (ANS=(ks[q],0)):=h_ (by rw[HP3.out,if_pos ⟨by omega,by omega⟩];simp[hql])
   have hl0:l.length=0:=HL2.out rfl
   clear HP3
   go_upto_region 9 with(fail)
   refine a7m (K:=Code.wp _ _ _ _) (B:=w3.heap.size) (n:=0) (Nat.le_refl _) (by decide) rfl fun w4 hO4 hw4=>?_
   have HB4:=h_ (HB3.out.below hw4)
   have HW5:=t_ HW4 hw4
   clear hO4 hw4 HB3 HW4 p0 p1 p6
   go_upto_region 10 with(fail)
   go_loopw [8,9,10,11] (fun v i _ _ wr=>i=.int .i64 0/\v=.slice (some ⟨w3.heap.size,0,none⟩) 0 0/\Below w4.heap.size w4 wr) (fun _ i _ _ _=>0)
   case atStart=>exact⟨rfl,rfl,Below.refl _ _⟩
   case round=>
    obtain⟨rfl,rfl,hb⟩:=hrel
    have HBr:=h_ (HB4.out.below hb)
    have HWr:=t_ HW5 hb
    have HC:=h_ (Ret.at_ (HRC2.out q (by first|rfl|trivial) hql (by first|rfl|trivial) (some ⟨w3.heap.size,0,none⟩) 0 wr HWr.out) HWr.out)
    clear hb HB4 HW5 HRC2
    have d1:decide ((0:Int)<(l.length:Int))=false:=decide_eq_false (by omega)
    have d2:¬(0:Int)<(l.length:Int):=by omega
    have d3:¬0<l.length:=by omega
    obtain⟨p0,p1,p2,p3,p4,p5,p6⟩:=HBr.out.c7
    generalize ks[q]=kq at HC HF
    clear hl0
    go_wp2_with fail
    refine HC.out.mono ?_
    rintro e' w5 ⟨rfl,hw5⟩
    have HW6:=h_ hw5
    clear hw5 HC HBr p0 p1 p2 p3 p4 p5 p6
    unfold a1S
    go_wp2_with fail
    go_ret2
    exact⟨by rw[HF.out];rfl,HW6.out⟩
  ·have h2b:(op==2)=false:=by simpa using h2
   have HP3:Hid (ANS=tcE op vk (tcs ks l)):=h_ (by rw[HP2.out,if_neg h2])
   have HR4:=h_ (HR3.out h2)
   clear HP2 HR3
   go_upto_region 9 with(fail)
   refine a7m (K:=Code.wp _ _ _ _) (B:=w3.heap.size) (n:=0) (Nat.le_refl _) (by decide) rfl fun w3' hO4 hw4=>?_
   have HO0:Hid (a0v w3.heap.size (.slice (some ⟨w3.heap.size,0,none⟩) 0 0) [] w3'):=h_ hO4
   have HB0:=h_ hw4
   clear hO4 hw4 p0 p1 p6
   go_upto_region 10 with(fail)
   go_loopw [8,9,10,11] (fun v i _ _ wr=>∃(k:Nat) (m:List Int),k<=l.length/\i=.int .i64 (k:Int)/\tcs ks (l.take k)=.inl m/\a0v w3.heap.size v m wr/\Below w3.heap.size w3 wr) (fun _ i _ _ _=>l.length - (intOf i).toNat)
   case atStart=>exact⟨0,[],Nat.zero_le _,rfl,rfl,HO0.out,HB0.out⟩
   case round=>
    obtain⟨k,m2,hk2,rfl,ht,ho,hb⟩:=hrel
    have HT:=h_ ht
    have HO:=h_ ho
    have HB:=h_ hb
    have HWb:=t_ HW4 hb
    have hlt2:∀g,u8.ownBlock=some g->w3.heap.size<=g:=fun g e=>(ho.lt g e).1
    have p6:=(HB3.out.below hb).cell 6 rfl
    clear ht ho hb HO0 HB0
    by_cases hlt:k<l.length
    ·obtain⟨g,o,us,eq,hec,hkx,hrx⟩:=HL.out.ec hlt
     subst eq
     have HX:Hid (XR w l[k] us):=h_ hrx
     obtain⟨eop,eint,evk,evi,evs,enm,el,ee⟩:∃eop eint evk evi evs enm el,l[k]=X.mk eop eint evk evi evs enm el:=by
      cases l[k]
      exact⟨_,_,_,_,_,_,_,rfl⟩
     have hrx2:XR w (X.mk eop eint evk evi evs enm el) us:=ee ▸ hrx
     obtain⟨ea,em,rfl,_⟩:=hrx2.lits
     have r0:=hec.at0 HWb.out (u:=_) rfl
     have r1:=hec.at_ HWb.out (j:=1) rfl
     have r2:=hec.at_ HWb.out (j:=2) rfl
     have r3:=hec.at_ HWb.out (j:=3) rfl
     have r4:=hec.at_ HWb.out (j:=4) rfl
     have r5:=hec.at_ HWb.out (j:=5) rfl
     have r6:=hec.at_ HWb.out (j:=6) rfl
     have gl:g<wr.heap.size:=by have:=HWb.out.size;have:=hec.1;omega
     have hle:=M_ (List.getElem_mem (l:=l) hlt)
     have hsx:=a1V HSH.out (List.getElem_mem (l:=l) hlt)
     have hml:m2.length<=1000000:=by have:=a6a HT.out;rw[List.length_take] at this;omega
     have HC:=h_ (HI.out l[k] _ wr ks ak ck (by omega) hsx hks (HV.out.below HWb.out) (HX.out.kept HWb.out (Nat.le_refl _)))
     have c2:(k:Int)<(l.length:Int):=by omega
     have c3:(0:Int)<=(k:Int):=by omega
     have HT0:=h_ (b6v (ks:=ks) hlt HT.out)
     have HT1:=h_ (b3T (ks:=ks) hlt HT.out)
     clear hec hrx hrx2 ee HX hsx hle
     generalize tc ks l[k]=q at HC HT0 HT1
     obtain⟨q1,q2⟩:=q
     go_wp2_with fail
     refine HC.out.mono ?_
     rintro e' w4 ⟨rfl,hw4⟩
     have HB4:=t_ HB hw4
     have HW5:=h_ (HW4.out.trans (HB4.out.mono HW4.out.size))
     have HO4:=h_ (a0v.below HO.out hw4)
     clear hw4 HO HB HWb HC p6 r0 r1 r2 r3 r4 r5 r6
     unfold a2m
     by_cases hq:q2=0
     ·subst hq
      have HT2:Hid (tcs ks (l.take (k+1))=.inl (m2++[q1])):=h_ (by rw[HT1.out];rfl)
      clear HT0 HT1
      go_wp2_with (at_builtin;refine wpList_append_own_at _ rfl (.tmp 61) (.tmp 63) 50 rfl w3.heap.size 3 i0 _ 1 8 Tryz.underlying50 hi0 hz0 hz1 hz2 rfl (by omega) u8 m2.length _ rfl (World.ownsRow.alloc HO4.out _) ⟨w4.heap.size,0,none⟩ 1 1 [.int .i64 q1] rfl rfl (a1d _ _ _) (fun u hu=>by obtain rfl:=List.mem_singleton.1 hu;rfl) (by unfold maxLen;omega) (by omega) (Nat.le_trans HB4.out.size (by simp)) ?_)
      intro v3 w5 hown3 hg3 _ hat3
      have hb5:Below w3.heap.size w3 w5:=(HB4.out.alloc HB4.out.size _).grown hg3 (Nat.le_trans HB4.out.size (by simp)) hlt2
      have HO3:Hid (a0v w3.heap.size v3 (m2++[q1]) w5):=h_ (a0v.snoc hown3)
      clear hown3 hg3 hat3
      go_wp2_with fail
      go_roundw
      case rel=>exact⟨k+1,m2++[q1],by omega,by go_num,HT2.out,HO3.out,hb5⟩
      case measure=>simp[intOf];omega
     ·have hqb:(q2 != 0)=true:=by simpa using hq
      have hqc:(q2==0)=false:=by simpa using hq
      have HF:Hid (ANS=(0,q2)):=h_ (by rw[HP3.out,HT0.out hq];rfl)
      clear HT0 HT1 HP3
      go_wp2_with fail
      go_ret2
      exact⟨by rw[HF.out];rfl,HW5.out⟩
    ·obtain rfl:k=l.length:=by omega
     have ht:=HT.out
     rw[List.take_length] at ht
     have d1:decide ((l.length:Int)<(l.length:Int))=false:=decide_eq_false (by omega)
     have HF:Hid (ANS=if(a5L op vk m2).2 then((a5L op vk m2).1,0) else(0,7)):=h_ (by rw[HP3.out,ht];rfl)
     have hml:=a6a ht
     have ho:=HO.out
     obtain⟨a2,c2,rfl,hs⟩:=ho.form
     have HRC:=h_ (Ret.at_ (HR4.out m2 a2 c2 (fun e=>by rw[hml];exact H3.out e) (by omega) ho.cap wr HWb.out hs) HWb.out)
     have HBr:=h_ (HB3.out.below HB.out)
     clear ht ho hs HP3 HR4 HO HT hml
     generalize a5L op vk m2=q at HRC HF
     obtain⟨q1,q2⟩:=q
     have p0:=HBr.out.cell 0 rfl
     have p1:=HBr.out.cell 1 rfl
     have p2:=HBr.out.cell 2 rfl
     have p3:=HBr.out.cell 3 rfl
     have p4:=HBr.out.cell 4 rfl
     have p5:=HBr.out.cell 5 rfl
     go_wp2_with fail
     refine HRC.out.mono ?_
     rintro e' w4 ⟨rfl,hw4⟩
     have HW5:=h_ hw4
     clear hw4 HRC HBr p0 p1 p2 p3 p4 p5 p6
     unfold a1S
     cases q2 with
     |false=>
      go_wp2_with fail
      go_ret2
      exact⟨by rw[HF.out];rfl,HW5.out⟩
     |true=>
      go_wp2_with fail
      go_ret2
      exact⟨by rw[HF.out];rfl,HW5.out⟩
theorem a7G:∀(N:Nat) (x:X) (cs:List Value) (w:World) (ks:List Int) (ak:Option Addr) (ck:Nat),nodes x<=N->N<=1000000->D_ x->ks.length<=1000000->SI w ks ak->XR w x cs->Calls Tryz.prog 268 #[.agg cs.toArray,.slice ak ks.length ck] w (Ret w (a2m (tc ks x)))
 |0,x,_,_,_,_,_,h,_,_,_,_,_=>absurd (U_ x) (by omega)
 |N+1,.mk op int vk vi vs nm l,cs,w,ks,ak,ck,hn,hN,hs,hks,hv,h=>by
  rw[nodes] at hn
  rw[D_] at hs
  exact b4x N (fun x cs w ks ak ck h1 h2 h3 h4 h5=>a7G N x cs w ks ak ck h1 (by omega) h2 h3 h4 h5) op int vk vi vs nm l cs w ks ak ck (by omega) (by omega) hs.1 hs.2 hks hv h
theorem a7R:∀(N:Nat) (x:X) (cs:List Value) (w:World) (ks:List Int) (ak:Option Addr) (ck:Nat),nodes x<=N->N<=1000000->D_ x->ks.length<=1000000->SI w ks ak->XR w x cs->Calls Tryz.prog 269 #[.agg cs.toArray,.slice ak ks.length ck] w (Ret w (a2m (tc ks x)))
 |0,x,_,_,_,_,_,h,_,_,_,_,_=>absurd (U_ x) (by omega)
 |N+1,.mk op int vk vi vs nm l,cs,w,ks,ak,ck,hn,hN,hs,hks,hv,h=>by
  rw[nodes] at hn
  rw[D_] at hs
  exact b3m N (fun x cs w ks ak ck h1 h2 h3 h4 h5=>a7R N x cs w ks ak ck h1 (by omega) h2 h3 h4 h5) op int vk vi vs nm l cs w ks ak ck (by omega) (by omega) hs.1 hs.2 hks hv h
theorem b2O(x:X)(cs:List Value)(w:World)(ks:List Int)(ak:Option Addr)(ck:Nat)(hn:nodes x<=1000000)(hs:D_ x)(hks:ks.length<=1000000)(hv:SI w ks ak)(h:XR w x cs):Calls Tryz.prog 201 #[.agg cs.toArray,.slice ak ks.length ck] w (Ret w (a2m (chk ks x))):=by
 have HD:=h_ fun(w':World) (hw':Below w.heap.size w w')=>a8z x cs w' (by omega) (h.kept hw' (Nat.le_refl _))
 have HC:=h_ fun(w':World) (hw':Below w.heap.size w w')=>a7G 1000000 x cs w' ks ak ck hn (Nat.le_refl _) hs hks (hv.below hw') (h.kept hw' (Nat.le_refl _))
 have HP:Hid (chk ks x=if 24<dep x then(0,26) else tc ks x):=h_ rfl
 generalize chk ks x=R at HP |-
 generalize tc ks x=q at HP HC
 generalize dep x=d at HP HD
 obtain⟨op,int,vk,vi,vs,nm,l⟩:=x
 obtain⟨a,m,rfl,hl,_,_,_⟩:=h.lits
 clear h hl hs hv hn
 go_enter Tryz.func201,Tryz.ntmps201
 go_upto_region 1 with(fail)
 refine nA fun w1 hB hw1 hz1=>?_
 have HW:=h_ hw1
 have HBk:=h_ hB
 obtain⟨p0,p1,p2,p3,p4,p5,p6⟩:=hB.c7
 clear hB hw1 hz1
 go_wp2_with fail
 refine(HD.out w1 HW.out).mono ?_
 rintro e w2 ⟨rfl,hw2⟩
 have HB2:=h_ (HBk.out.below hw2)
 have HW2:=t_ HW hw2
 clear hw2 HBk HW HD p0 p1 p2 p3 p4 p5 p6
 by_cases hd:24<d
 ·have HF:Hid (R=(0,26)):=h_ (by rw[HP.out,if_pos hd])
  have e25:min d 25=25:=by omega
  rw[e25]
  clear e25
  clear HP hd
  go_wp2_with fail
  go_ret2
  exact⟨by rw[HF.out];rfl,HW2.out⟩
 ·have HF:Hid (R=q):=h_ (by rw[HP.out,if_neg hd])
  have c1:¬(24:Int)<((min d 25:Nat):Int):=by omega
  generalize min d 25=dd at c1 |-
  have HC2:=h_ (HC.out w2 HW2.out)
  clear HP hd HC
  obtain⟨p0,p1,p2,p3,p4,p5,p6⟩:=HB2.out.c7
  obtain⟨q1,q2⟩:=q
  go_wp2_with fail
  refine HC2.out.mono ?_
  rintro e w3 ⟨rfl,hw3⟩
  have HW3:=t_ HW2 hw3
  clear hw3 HC2 HB2 HW2 p0 p1 p2 p3 p4 p5 p6
  unfold a2m
  go_wp2_with fail
  go_ret2
  exact⟨by rw[HF.out];rfl,HW3.out⟩
theorem b3Z(x:X)(cs:List Value)(w:World)(ks:List Int)(ak:Option Addr)(ck:Nat)(hn:nodes x<=1000000)(hs:D_ x)(hks:ks.length<=1000000)(hv:SI w ks ak)(h:XR w x cs):Calls Tryz.prog 212 #[.agg cs.toArray,.slice ak ks.length ck] w (Ret w (a2m (chk ks x))):=by
 have HD:=h_ fun(w':World) (hw':Below w.heap.size w w')=>a4f (nodes x) x cs w' (Nat.le_refl _) (by omega) (h.kept hw' (Nat.le_refl _))
 have HC:=h_ fun(w':World) (hw':Below w.heap.size w w')=>a7R 1000000 x cs w' ks ak ck hn (Nat.le_refl _) hs hks (hv.below hw') (h.kept hw' (Nat.le_refl _))
 have HP:Hid (chk ks x=if 24<dep x then(0,26) else tc ks x):=h_ rfl
 generalize chk ks x=R at HP |-
 generalize tc ks x=q at HP HC
 generalize dep x=d at HP HD
 obtain⟨op,int,vk,vi,vs,nm,l⟩:=x
 obtain⟨a,m,rfl,hl,_,_,_⟩:=h.lits
 clear h hl hs hv hn
 go_enter Tryz.func212,Tryz.ntmps212
 go_upto_region 1 with(fail)
 refine nA fun w1 hB hw1 hz1=>?_
 have HW:=h_ hw1
 have HBk:=h_ hB
 obtain⟨p0,p1,p2,p3,p4,p5,p6⟩:=hB.c7
 clear hB hw1 hz1
 go_wp2_with fail
 refine(HD.out w1 HW.out).mono ?_
 rintro e w2 ⟨rfl,hw2⟩
 have HB2:=h_ (HBk.out.below hw2)
 have HW2:=t_ HW hw2
 clear hw2 HBk HW HD p0 p1 p2 p3 p4 p5 p6
 by_cases hd:24<d
 ·have HF:Hid (R=(0,26)):=h_ (by rw[HP.out,if_pos hd])
  have c1:(24:Int)<(d:Int):=by omega
  clear HP hd
  go_wp2_with fail
  go_ret2
  exact⟨by rw[HF.out];rfl,HW2.out⟩
 ·have HF:Hid (R=q):=h_ (by rw[HP.out,if_neg hd])
  have c1:¬(24:Int)<(d:Int):=by omega
  have HC2:=h_ (HC.out w2 HW2.out)
  clear HP hd HC
  obtain⟨p0,p1,p2,p3,p4,p5,p6⟩:=HB2.out.c7
  obtain⟨q1,q2⟩:=q
  go_wp2_with fail
  refine HC2.out.mono ?_
  rintro e w3 ⟨rfl,hw3⟩
  have HW3:=t_ HW2 hw3
  clear hw3 HC2 HB2 HW2 p0 p1 p2 p3 p4 p5 p6
  unfold a2m
  go_wp2_with fail
  go_ret2
  exact⟨by rw[HF.out];rfl,HW3.out⟩
end Go.Proofs.YtlimlmjljjmcpaaGreatDoor.Px
