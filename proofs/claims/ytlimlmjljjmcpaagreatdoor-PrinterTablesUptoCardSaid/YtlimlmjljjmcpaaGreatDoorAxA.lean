import Derived.WalkKit
import Derived.Lib.Space
import Derived.Deep.MidRow
import Derived.Below
import Derived.Orders
import Derived.ArgAppend
import Derived.Lib.Builder
import Derived.Lib.UnsafeStr
import Derived.Deep.AppendSrc
import Derived.Lib.MakeNoZero
import Derived.Laws.Externs
import Derived.KernelRfl
import Derived.OrdersIn
import Derived.RangeFuncRecord
namespace Go.Proofs.YtlimlmjljjmcpaaGreatDoor.Ax
open Go Go.RowKit
def spN:List Nat:=[0,0,0,0,0,0,0,0,0,1,1,1,1,1,0,0,0,0,0,0,0,0,0,0,0,0,0,0,0,0,0,0,1,0,0,0,0,0,0,0,0,0,0,0,0,0,0,0,0,0,0,0,0,0,0,0,0,0,0,0,0,0,0,0,0,0,0,0,0,0,0,0,0,0,0,0,0,0,0,0,0,0,0,0,0,0,0,0,0,0,0,0,0,0,0,0,0,0,0,0,0,0,0,0,0,0,0,0,0,0,0,0,0,0,0,0,0,0,0,0,0,0,0,0,0,0,0,0,0,0,0,0,0,0,0,0,0,0,0,0,0,0,0,0,0,0,0,0,0,0,0,0,0,0,0,0,0,0,0,0,0,0,0,0,0,0,0,0,0,0,0,0,0,0,0,0,0,0,0,0,0,0,0,0,0,0,0,0,0,0,0,0,0,0,0,0,0,0,0,0,0,0,0,0,0,0,0,0,0,0,0,0,0,0,0,0,0,0,0,0,0,0,0,0,0,0,0,0,0,0,0,0,0,0,0,0,0,0,0,0,0,0,0,0,0,0,0,0,0,0,0,0,0,0,0,0]
def spV:List Value:=spN.map fun z=>.int .u8 (.ofNat z)
theorem b9e:(Lib.asciiSpaceTab.map fun z=>Value.int .u8 z)=spV:=by
 have h:Lib.asciiSpaceTab=spN.map fun z=>Int.ofNat z:=by decide +kernel
 rw[h,List.map_map]
 rfl
def pwN:List Nat:=[1,10,100,1000,10000,100000,1000000,10000000,100000000,1000000000,10000000000,100000000000,1000000000000,10000000000000,100000000000000,1000000000000000,10000000000000000,100000000000000000,1000000000000000000,10000000000000000000]
def pwV:List Value:=pwN.map fun z=>.int .u64 (.ofNat z)
def b9J(b:Nat):Option (List Value):=bif Nat.beq b 2 then some spV else bif Nat.beq b 1 then some pwV else none
def b2i:(Nat->Option Obj)->(Nat->Value)->Prop:=fun _ _=>True
theorem b7S{K K':Nat->Option Obj}{env:Nat->Value}(_:∀q o,K q=some o->K' q=some o)(_:b2i K env):b2i K' env:=trivial
def a0O(w:World):Prop:=∀b l,b9J b=some l -> ∃t f,w.heap[b]? = some (.cells l.toArray t f)
theorem c0D{w:World}(h:∃t f,w.heap[2]? = some (.cells (Lib.asciiSpaceTab.map fun z=>Value.int .u8 z).toArray t f))(h2:∃t f,w.heap[1]? = some (.cells pwV.toArray t f)):a0O w:=fun b l hb=>by
 unfold b9J at hb
 cases e:Nat.beq b 2 with
 |true=>
  rw[e,cond_true] at hb
  cases hb
  rw[Nat.eq_of_beq_eq_true e,<-b9e]
  exact h
 |false=>
  rw[e,cond_false] at hb
  cases e2:Nat.beq b 1 with
  |false=>rw[e2] at hb;cases hb
  |true=>
   rw[e2,cond_true] at hb
   cases hb
   rw[Nat.eq_of_beq_eq_true e2]
   exact h2
end Go.Proofs.YtlimlmjljjmcpaaGreatDoor.Ax
namespace Go.Proofs.YtlimlmjljjmcpaaGreatDoor.Ax
open Go.RowKit
set_option linter.unusedVariables false
set_option linter.unusedSimpArgs false
inductive Tr(α:Type) where
 |leaf
 |node (v:Option α) (l r:Tr α)
 deriving Inhabited
namespace Tr
variable {α:Type}
def get:Tr α->Nat->Option α
 |.leaf,_=>none
 |.node v l r,n=>bif Nat.beq n 0 then v else bif Nat.beq (n % 2) 1 then l.get (n / 2) else r.get (n / 2 - 1)
def a4Z{β:Type}(x:α):Nat->Tr α->Nat->(Tr α->β)->β
 |0,t,_,k=>k t
 |f+1,.leaf,n,k=>bif Nat.beq n 0 then k (.node (some x) .leaf .leaf) else bif Nat.beq (n % 2) 1 then a4Z x f .leaf (n / 2) fun l=>k (.node none l .leaf) else a4Z x f .leaf (n / 2 - 1) fun r=>k (.node none .leaf r)
 |f+1,.node v l r,n,k=>bif Nat.beq n 0 then k (.node (some x) l r) else bif Nat.beq (n % 2) 1 then a4Z x f l (n / 2) fun l=>k (.node v l r) else a4Z x f r (n / 2 - 1) fun r=>k (.node v l r)
def set(t:Tr α)(n:Nat)(x:α):Tr α:=a4Z x (n+1) t n id
theorem a1K{β:Type}(x:α):∀(f:Nat) (t:Tr α) (n:Nat) (k:Tr α->β),a4Z x f t n k=k (a4Z x f t n id)
 |0,t,n,k=>rfl
 |f+1,.leaf,n,k=>by
  simp only[a4Z,id]
  cases Nat.beq n 0<;>cases Nat.beq (n % 2) 1<;>simp only[cond_true,cond_false]
  ·rw[a1K x f _ _ (fun r=>k (.node none .leaf r)),a1K x f _ _ (fun r=>Tr.node none .leaf r)]
  ·rw[a1K x f _ _ (fun l=>k (.node none l .leaf)),a1K x f _ _ (fun l=>Tr.node none l .leaf)]
 |f+1,.node v l r,n,k=>by
  simp only[a4Z,id]
  cases Nat.beq n 0<;>cases Nat.beq (n % 2) 1<;>simp only[cond_true,cond_false]
  ·rw[a1K x f _ _ (fun r=>k (.node v l r)),a1K x f _ _ (fun r=>Tr.node v l r)]
  ·rw[a1K x f _ _ (fun l=>k (.node v l r)),a1K x f _ _ (fun l=>Tr.node v l r)]
theorem a6c(n:Nat):(Tr.leaf:Tr α).get n=none:=rfl
theorem a9j(x:α):∀(f:Nat) (t:Tr α) (n m:Nat),n<f->(a4Z x f t n id).get m=if m=n then some x else t.get m
 |0,t,n,m,h=>absurd h (by omega)
 |f+1,t,n,m,h=>by
  have e0:∀k,Nat.beq k 0=decide (k=0):=fun k=>by cases k<;>rfl
  have e1:∀k,Nat.beq k 1=decide (k=1):=fun k=>by
   rcases k with _|_|k<;>simp[Nat.beq]
  rcases Nat.eq_zero_or_pos n with rfl|hn
  ·cases t<;>simp only[a4Z,get,id,e0,decide_true,cond_true]<;>rcases Nat.eq_zero_or_pos m with rfl|hm
   ·simp[get]
   ·have:¬(m=0):=by omega
    simp[get,e0,this]
   ·simp[get]
   ·have:¬(m=0):=by omega
    simp[get,e0,this]
  ·have hn0:¬(n=0):=by omega
   by_cases h2:n % 2=1
   ·have hr:∀s:Tr α,(a4Z x f s (n / 2) id).get (m / 2)=if m / 2=n / 2 then some x else s.get (m / 2):=fun s=>a9j x f s (n / 2) (m / 2) (by omega)
    cases t<;>simp only[a4Z,id,e0,e1,hn0,h2,decide_false,decide_true,cond_false,cond_true]<;>rw[a1K]<;>simp only[get,e0,e1,a6c]
    ·rcases Nat.eq_zero_or_pos m with rfl|hm
     ·simp;omega
     ·have hm0:¬(m=0):=by omega
      simp only[hm0,decide_false,cond_false]
      by_cases h3:m % 2=1
      ·simp only[h3,decide_true,cond_true,hr,a6c]
       have:(m / 2=n / 2)=(m=n):=by apply propext;omega
       simp only[this]
      ·simp only[h3,decide_false,cond_false]
       rw[if_neg (by omega)]
    ·rcases Nat.eq_zero_or_pos m with rfl|hm
     ·simp only[decide_true,cond_true]
      rw[if_neg (by omega)]
     ·have hm0:¬(m=0):=by omega
      simp only[hm0,decide_false,cond_false]
      by_cases h3:m % 2=1
      ·simp only[h3,decide_true,cond_true,hr]
       have:(m / 2=n / 2)=(m=n):=by apply propext;omega
       simp only[this]
      ·simp only[h3,decide_false,cond_false]
       rw[if_neg (by omega)]
   ·have hr:∀s:Tr α,(a4Z x f s (n / 2 - 1) id).get (m / 2 - 1)=if m / 2 - 1=n / 2 - 1 then some x else s.get (m / 2 - 1):=fun s=>a9j x f s (n / 2 - 1) (m / 2 - 1) (by omega)
    cases t<;>simp only[a4Z,id,e0,e1,hn0,h2,decide_false,decide_true,cond_false,cond_true]<;>rw[a1K]<;>simp only[get,e0,e1,a6c]
    ·rcases Nat.eq_zero_or_pos m with rfl|hm
     ·simp;omega
     ·have hm0:¬(m=0):=by omega
      simp only[hm0,decide_false,cond_false]
      by_cases h3:m % 2=1
      ·simp only[h3,decide_true,cond_true]
       rw[if_neg (by omega)]
      ·simp only[h3,decide_false,cond_false,hr,a6c]
       have:(m / 2 - 1=n / 2 - 1)=(m=n):=by apply propext;omega
       simp only[this]
    ·rcases Nat.eq_zero_or_pos m with rfl|hm
     ·simp only[decide_true,cond_true]
      rw[if_neg (by omega)]
     ·have hm0:¬(m=0):=by omega
      simp only[hm0,decide_false,cond_false]
      by_cases h3:m % 2=1
      ·simp only[h3,decide_true,cond_true]
       rw[if_neg (by omega)]
      ·simp only[h3,decide_false,cond_false,hr]
       have:(m / 2 - 1=n / 2 - 1)=(m=n):=by apply propext;omega
       simp only[this]
theorem a1q(t:Tr α)(n m:Nat)(x:α):(t.set n x).get m=if m=n then some x else t.get m:=a9j x (n+1) t n m (by omega)
end Tr
inductive RV where
 |lit (v:Value)
 |str (l:List Nat)
 |opq (i:Nat)
 |ptr (G e off:Nat)
 |sl (G e off len sz:Nat)
 |s0 (G e off:Nat)
 |se
 |agg (l:List RV)
 |tup (l:List RV)
 |ifc (t:TypeId) (v:RV)
 |clo (f:FuncId) (a l:List RV)
 |mp (G:Nat)
 |yld (G:Nat)
 deriving Inhabited
def r_(l:List Nat):ByteArray:=⟨(l.map UInt8.ofNat).toArray⟩
def codes(s:ByteArray):List Nat:=s.data.toList.map UInt8.toNat
theorem a5k(s:ByteArray):r_ (codes s)=s:=by
 simp[r_,codes,Function.comp_def]
theorem b8u(s:ByteArray):∀x∈codes s,x<256:=fun x hx=>by
 obtain⟨b,_,rfl⟩:=List.mem_map.1 hx
 exact b.toNat_lt
abbrev Gm:=Nat->Nat->Option (Nat × Nat)
def Ext(g g':Gm):Prop:=∀G e x,g G e=some x->g' G e=some x
theorem Ext.refl(g:Gm):Ext g g:=fun _ _ _ h=>h
theorem Ext.trans{a b c:Gm}(h:Ext a b)(k:Ext b c):Ext a c:=fun G e x hx=>k G e x (h G e x hx)
inductive R(g:Gm)(env:Nat->Value):RV->Value->Prop
 |lit (v:Value):R g env (.lit v) v
 |str {l:List Nat} (h:∀x∈l,x<256):R g env (.str l) (.string (r_ l))
 |opq (i:Nat) (h1:(env i).cells=#[env i]) (h2:(env i).oneCell'=true):R g env (.opq i) (env i)
 |ptr {G e off q n:Nat} (h:g G e=some (q,n)):R g env (.ptr G e off) (.pointer (some ⟨q,off,none⟩))
 |sl {G e off len sz q n cap:Nat} (h:g G e=some (q,n)) (hc:len<=cap) (hn:off+cap*sz<=n):R g env (.sl G e off len sz) (.slice (some ⟨q,off,none⟩) len cap)
 |s0 {G e off q n:Nat} (h:g G e=some (q,n)):R g env (.s0 G e off) (.slice (some ⟨q,off,none⟩) 0 0)
 |se (a:Addr) (cap:Nat):R g env .se (.slice (some a) 0 cap)
 |agg {l:List RV} {vs:Array Value} (hn:l.length=vs.size) (h:∀i (h1:i<l.length) (h2:i<vs.size),R g env l[i] vs[i]):R g env (.agg l) (.agg vs)
 |tup {l:List RV} {vs:Array Value} (hn:l.length=vs.size) (h:∀i (h1:i<l.length) (h2:i<vs.size),R g env l[i] vs[i]):R g env (.tup l) (.tuple vs)
 |ifc {t:TypeId} {r:RV} {v:Value} (h:R g env r v):R g env (.ifc t r) (.iface t v)
 |clo {f:FuncId} {a l:List RV} {us vs:Array Value} (hm:a.length=us.size) (k:∀i (h1:i<a.length) (h2:i<us.size),R g env a[i] us[i]) (hn:l.length=vs.size) (h:∀i (h1:i<l.length) (h2:i<vs.size),R g env l[i] vs[i]):R g env (.clo f a l) (.func (.func f) us vs)
 |mp {G q n:Nat} (h:g G 0=some (q,n)):R g env (.mp G) (.map (some q))
 |yld {G q n:Nat} (h:g G 0=some (q,n)):R g env (.yld G) (.func (.yield q) #[] #[])
theorem R.mono{g g':Gm}{env:Nat->Value}{r:RV}{v:Value}(h:R g env r v)(hg:Ext g g'):R g' env r v:=by
 induction h with
 |lit v=>exact .lit v
 |str h=>exact .str h
 |opq i h1 h2=>exact .opq i h1 h2
 |ptr h=>exact .ptr (hg _ _ _ h)
 |sl h hc hn=>exact .sl (hg _ _ _ h) hc hn
 |s0 h=>exact .s0 (hg _ _ _ h)
 |se a cap=>exact .se a cap
 |agg hn _ ih=>exact .agg hn ih
 |tup hn _ ih=>exact .tup hn ih
 |ifc _ ih=>exact .ifc ih
 |clo hm _ hn _ ih1 ih2=>exact .clo hm ih1 hn ih2
 |mp h=>exact .mp (hg _ _ _ h)
 |yld h=>exact .yld (hg _ _ _ h)
def ofV:Value->RV
 |.string s=>.str (codes s)
 |v=>.lit v
theorem a4A(g:Gm)(env:Nat->Value)(v:Value):R g env (ofV v) v:=by
 cases v with
 |string s=>
  have:=R.str (g:=g) (env:=env) (b8u s)
  rw[a5k] at this
  exact this
 |_=>exact .lit _
structure RL(g:Gm)(env:Nat->Value)(l:List RV)(vs:List Value):Prop where
 len:l.length=vs.length
 at_:∀i (h1:i<l.length) (h2:i<vs.length),R g env l[i] vs[i]
section
variable {g g':Gm} {env:Nat->Value}
theorem RL.mono{l:List RV}{vs:List Value}(h:RL g env l vs)(hg:Ext g g'):RL g' env l vs:=⟨h.len,fun i h1 h2=>(h.at_ i h1 h2).mono hg⟩
theorem RL.nil:RL g env [] []:=⟨rfl,fun i h=>absurd h (by simp)⟩
theorem RL.cons{r:RV}{v:Value}{l:List RV}{vs:List Value}(h:R g env r v)(hl:RL g env l vs):RL g env (r::l) (v::vs):=by
 refine⟨by simp[hl.len],fun i h1 h2=>?_⟩
 rcases i with _|i
 ·exact h
 ·exact hl.at_ i (by simpa using h1) (by simpa using h2)
theorem RL.tail{r:RV}{v:Value}{rs:List RV}{vs:List Value}(h:RL g env (r::rs) (v::vs)):R g env r v/\RL g env rs vs:=
 ⟨h.at_ 0 (by simp) (by simp),⟨by have:=h.len;simpa using this,fun i k1 k2=>h.at_ (i+1) (by simpa using k1) (by simpa using k2)⟩⟩
theorem RL.set{cs:List RV}{vs:List Value}(hc:RL g env cs vs){r:RV}{v:Value}(hr:R g env r v)(i:Nat):RL g env (cs.set i r) (vs.set i v):=by
 refine⟨by simp[hc.len],fun j h1 h2=>?_⟩
 rw[List.getElem_set,List.getElem_set]
 split
 ·exact hr
 ·exact hc.at_ j (by simpa using h1) (by simpa using h2)
theorem RL.lits(vs:List Value):RL g env (vs.map ofV) vs:=⟨by simp,fun i h1 h2=>by simpa using a4A _ _ _⟩
theorem RL.append{l m:List RV}{vs us:List Value}(h1:RL g env l vs)(h2:RL g env m us):RL g env (l++m) (vs++us):=by
 induction l generalizing vs with
 |nil=>
  have:vs=[]:=List.eq_nil_of_length_eq_zero (by rw[<-h1.len];rfl)
  subst this
  exact h2
 |cons r l ih=>
  rcases vs with _|⟨v,vs⟩
  ·have:=h1.len
   simp at this
  ·exact .cons (h1.at_ 0 (by simp) (by simp)) (ih ⟨by have:=h1.len;simpa using this,fun i k1 k2=>h1.at_ (i+1) (by simpa using k1) (by simpa using k2)⟩)
theorem RL.take{l:List RV}{vs:List Value}(h:RL g env l vs)(n:Nat):RL g env (l.take n) (vs.take n):=
 ⟨by simp[h.len],fun i h1 h2=>by
  rw[List.getElem_take,List.getElem_take]
  exact h.at_ i (by simp at h1;omega) (by simp at h2;omega)⟩
theorem RL.drop{l:List RV}{vs:List Value}(h:RL g env l vs)(n:Nat):RL g env (l.drop n) (vs.drop n):=
 ⟨by simp[h.len],fun i h1 h2=>by
  rw[List.getElem_drop,List.getElem_drop]
  exact h.at_ (n+i) (by simp at h1;omega) (by simp at h2;omega)⟩
end
structure RF(g:Gm)(env:Nat->Value)(t:Tr RV)(n:Nat)(a:Act):Prop where
 size:a.tmps.size=n
 at_:∀i,R g env ((t.get i).getD (.lit undef)) (a.tmps.getD i undef)
theorem RF.mono{g g':Gm}{env:Nat->Value}{t:Tr RV}{n:Nat}{a:Act}(h:RF g env t n a)(hg:Ext g g'):RF g' env t n a:=⟨h.size,fun i=>(h.at_ i).mono hg⟩
def p_(t:Tr RV):Operand->RV
 |.tmp i=>match t.get i with
  |some r=>r
  |none=>.lit undef
 |.const v=>ofV v
 |.global b=>.lit (.pointer (some ⟨b,0,none⟩))
 |.func f=>.lit (.func (.func f) #[] #[])
theorem a2P{g:Gm}{env:Nat->Value}{t:Tr RV}{n:Nat}{a:Act}(h:RF g env t n a)(x:Operand):R g env (p_ t x) (a.eval x):=by
 cases x with
 |tmp i=>
  have:=h.at_ i
  show R g env (match t.get i with|some r=>r|none=>.lit undef) (a.tmps.getD i undef)
  cases ht:t.get i with
  |none=>rw[ht] at this;exact this
  |some r=>rw[ht] at this;exact this
 |const v=>exact a4A _ _ _
 |global b=>exact .lit _
 |func f=>exact .lit _
theorem RF.put{g:Gm}{env:Nat->Value}{t:Tr RV}{n:Nat}{a:Act}(h:RF g env t n a){d:Nat}(hd:d<n){r:RV}{v:Value}(hr:R g env r v):RF g env (t.set d r) n (a.put (some d) v):=by
 refine⟨by simp[Act.put,h.size],fun i=>?_⟩
 rw[Tr.a1q]
 by_cases hi:i=d
 ·subst hi
  have hlt:i<a.tmps.size:=by rw[h.size];exact hd
  have e:(a.put (some i) v).tmps.getD i undef=v:=by simp[Act.put,hlt]
  rw[e,if_pos rfl]
  exact hr
 ·have e:(a.put (some d) v).tmps.getD i undef=a.tmps.getD i undef:=by
   have:d ≠ i:=fun e=>hi e.symm
   simp[Act.put,Array.getElem?_setIfInBounds_ne this]
  rw[e,if_neg hi]
  exact h.at_ i
theorem RF.b9v{g:Gm}{env:Nat->Value}{t:Tr RV}{n:Nat}{a:Act}(h:RF g env t n a)(v:Value):RF g env t n (a.put none v):=h
end Go.Proofs.YtlimlmjljjmcpaaGreatDoor.Ax
namespace Go.Proofs.YtlimlmjljjmcpaaGreatDoor.Ax
open Go.RowKit
set_option linter.unusedVariables false
set_option linter.unusedSimpArgs false
inductive LB where
 |lp (st:LoopState) (pend:Option Code) (tm:Tr RV) (n:Nat) (ps:Array Tmp) (assign body:Code)
 |df (op:Bool)
 |mi (m since:Nat) (seen:List Nat) (last:Nat)
def LBR(g:Gm)(env:Nat->Value):LB->Obj->Prop
 |.lp st pend tm n ps assign body,o=>∃r:Loop,o=.loop r/\r.state=st/\r.pending=pend/\r.params=ps/\r.assign=assign/\r.body=body/\RF g env tm n {tmps:=r.tmps,defers:=[]}
 |.df true,o=>o=.deferred (some [])
 |.df false,o=>o=.deferred none
 |.mi m since seen last,o=>∃q n,g m 0=some (q,n)/\o=.mapIter (some q) since seen.toArray last
theorem LBR.mono{g g':Gm}{env:Nat->Value}{b:LB}{o:Obj}(h:LBR g env b o)(hg:Ext g g'):LBR g' env b o:=by
 cases b with
 |lp st pend tm n ps assign body=>
  obtain⟨r,h1,h2,h3,h4,h5,h6,h7⟩:=h
  exact⟨r,h1,h2,h3,h4,h5,h6,h7.mono hg⟩
 |df op=>cases op<;>exact h
 |mi m since seen last=>
  obtain⟨q,n,h1,h2⟩:=h
  exact⟨q,n,hg _ _ _ h1,h2⟩
inductive OB where
 |cells (elem:TypeId) (z:Bool) (nx:Nat) (mem:List (Nat × List RV))
 |mp (es:List (RV × RV × Nat)) (clock:Nat)
 |si (s rest:List Nat) (pos:Nat)
 |ot (b:LB)
 deriving Inhabited
abbrev Hp:=Tr OB
structure Cx where
 w0:World
 K:Nat->Option Obj
 F:Nat->Option (Nat->Option (Nat × Nat))
 env:Nat->Value
 tab:∀b l,b9J b=some l -> ∃t f,K b=some (.cells l.toArray t f)
 envp:b2i K env
def Lies(g:Gm)(env:Nat->Value)(w:World)(q n:Nat)(elem:TypeId)(z:Bool)(cs:List RV):Prop:=
 ∃arr fz,w.heap[q]? = some (.cells arr elem fz)/\((z=false->fz=(0,0)) /\ ∀j,j<n->(decide (fz.1<=j)&&decide (j<fz.2))=false)/\arr.size=n/\cs.length<=n /\ ∀j (h1:j<cs.length) (h2:j<arr.size),R g env cs[j] arr[j]
def OK(c:Cx)(g:Gm)(w:World)(G:Nat):OB->Prop
 |.cells elem z nxe mem=>(∀e,nxe<=e->g G e=none) /\ ∀e cs,(e,cs)∈mem -> ∃q n,g G e=some (q,n)/\c.K q=none/\Lies g c.env w q n elem z cs
 |.mp es ck=>(∀e,1<=e->g G e=none) /\ ∃q arr,g G 0=some (q,0)/\c.K q=none/\w.heap[q]? = some (.map arr ck)/\arr.size=es.length /\ ∀j (h1:j<es.length) (h2:j<arr.size),R g c.env es[j].1 arr[j].key/\R g c.env es[j].2.1 arr[j].val/\arr[j].born=es[j].2.2
 |.si s rest pos=>(∀e,1<=e->g G e=none)/\(∀x∈s,x<256)/\rest=s.drop pos /\ ∃q,g G 0=some (q,0)/\c.K q=none/\w.heap[q]? = some (.stringIter (r_ s) pos)
 |.ot b=>(∀e,1<=e->g G e=none) /\ ∃q o,g G 0=some (q,0)/\c.K q=none/\w.heap[q]? = some o/\LBR g c.env b o
def a4t:OB->Nat->Prop
 |.cells _ _ _ mem,e=>∃cs,(e,cs)∈mem
 |.mp _ _,e=>e=0
 |.si _ _ _,e=>e=0
 |.ot _,e=>e=0
def Live(h:Hp)(G e:Nat):Prop:=∃ob,h.get G=some ob/\a4t ob e
structure RW(c:Cx)(g:Gm)(h:Hp)(nx:Nat)(w:World):Prop where
 os:w.os=c.w0.os
 tape:w.tape=c.w0.tape
 output:w.output=c.w0.output
 size:c.w0.heap.size<=w.heap.size
 keep:∀q o,c.K q=some o->w.heap[q]? = some o
 free:∀G e,nx<=G->g G e=none
 dom:∀G,nx<=G->h.get G=none
 res:∀G f,c.F G=some f->G<nx/\h.get G=none /\ ∀e,g G e=f e
 ok:∀G ob,h.get G=some ob->OK c g w G ob
 sep:∀G G' e e' q n n',Live h G e->Live h G' e'->g G e=some (q,n)->g G' e'=some (q,n')->G=G'
section
variable {c:Cx} {g g':Gm} {h:Hp} {nx nx':Nat} {w w':World}
theorem Lies.mono{env:Nat->Value}{q n:Nat}{elem:TypeId}{z:Bool}{cs:List RV}(hl:Lies g env w q n elem z cs)(hg:Ext g g')(hw:w'.heap[q]? = w.heap[q]?):Lies g' env w' q n elem z cs:=by
 obtain⟨arr,fz,h1,hf,h0,h2,h3⟩:=hl
 exact⟨arr,fz,hw.trans h1,hf,h0,h2,fun j a b=>(h3 j a b).mono hg⟩
theorem Lies.cell{env:Nat->Value}{q n:Nat}{elem:TypeId}{z:Bool}{cs:List RV}(hl:Lies g env w q n elem z cs){j:Nat}(hj:j<cs.length):∃v,w.cell? ⟨q,j,none⟩=some v/\R g env cs[j] v/\w.frozen? ⟨q,j,none⟩=false:=by
 obtain⟨arr,fz,h1,hf,h0,h2,h3⟩:=hl
 have hja:j<arr.size:=by omega
 refine⟨arr[j],?_,h3 j hj hja,?_⟩
 ·simp[World.cell?,h1,hja]
 ·have:=hf.2 j (by omega)
  simp only[World.frozen?,h1]
  exact this
theorem Lies.range{env:Nat->Value}{q m:Nat}{elem:TypeId}{z:Bool}{cs:List RV}(hl:Lies g env w q m elem z cs){off n:Nat}(hn:off+n<=cs.length):∃vs:List Value,w.rangeAt q off vs/\vs.length=n/\RL g env ((cs.drop off).take n) vs:=by
 obtain⟨arr,fz,h1,hf,h0,h2,h3⟩:=hl
 have hlen:((arr.toList.drop off).take n).length=n:=by
  rw[List.length_take,List.length_drop,Array.length_toList]
  omega
 refine⟨(arr.toList.drop off).take n,fun j v hj=>?_,hlen,⟨?_,fun j k1 k2=>?_⟩⟩
 ·have hjn:j<n:=by rw[<-hlen];exact(List.getElem?_eq_some_iff.1 hj).1
  rw[List.getElem?_take,if_pos hjn,List.getElem?_drop] at hj
  have:arr[off+j]? = some v:=by rw[<-Array.getElem?_toList];exact hj
  simp[World.cell?,h1,this]
 ·rw[hlen,List.length_take,List.length_drop]
  omega
 ·rw[List.getElem_take,List.getElem_drop,List.getElem_take,List.getElem_drop]
  have hjn:j<n:=by rw[<-hlen];exact k2
  exact h3 (off+j) (by omega) (by omega)
theorem OK.mono{G:Nat}{ob:OB}(ho:OK c g w G ob)(hext:Ext g g')(hg:∀e,g' G e=g G e)(hb:∀e q n,a4t ob e->g G e=some (q,n)->w'.heap[q]? = w.heap[q]?):OK c g' w' G ob:=by
 cases ob with
 |cells elem z nxe mem=>
  refine⟨fun e he=>by rw[hg];exact ho.1 e he,fun e cs hm=>?_⟩
  obtain⟨q,n,h1,h2,h3⟩:=ho.2 e cs hm
  exact⟨q,n,by rw[hg];exact h1,h2,h3.mono hext (hb e q n ⟨cs,hm⟩ h1)⟩
 |mp es ck=>
  obtain⟨h0,q,arr,h1,h2,h3,h4,h5⟩:=ho
  refine⟨fun e he=>by rw[hg];exact h0 e he,q,arr,by rw[hg];exact h1,h2,(hb 0 q 0 rfl h1).trans h3,h4,fun j k1 k2=>?_⟩
  obtain⟨a,b,d⟩:=h5 j k1 k2
  exact⟨a.mono hext,b.mono hext,d⟩
 |si s rest pos=>
  obtain⟨h0,hs,hr,q,h1,h2,h3⟩:=ho
  exact⟨fun e he=>by rw[hg];exact h0 e he,hs,hr,q,by rw[hg];exact h1,h2,(hb 0 q 0 rfl h1).trans h3⟩
 |ot b=>
  obtain⟨h0,q,o,h1,h2,h3,h4⟩:=ho
  exact⟨fun e he=>by rw[hg];exact h0 e he,q,o,by rw[hg];exact h1,h2,(hb 0 q 0 rfl h1).trans h3,h4.mono hext⟩
theorem RW.upd(hw:RW c g h nx w){G:Nat}{ob:OB}{F':Nat->Option (Nat->Option (Nat × Nat))}(hst:w'.os=w.os/\w'.tape=w.tape/\w'.output=w.output/\w.heap.size<=w'.heap.size)(hK:∀q o,c.K q=some o->w'.heap[q]? = w.heap[q]?)(hoth:∀G' e' q n,G' ≠ G->Live h G' e'->g G' e'=some (q,n)->w'.heap[q]? = w.heap[q]?)(hext:Ext g g')(hg:∀G' e',G' ≠ G->g' G' e'=g G' e')(hres:∀x f,F' x=some f->c.F x=some f/\x ≠ G)(hnx:nx<=nx')(hG:G<nx')(hok:OK c g' w' G ob)(hsep:∀e q n,a4t ob e->g' G e=some (q,n) -> ∀G' e' n',G' ≠ G->Live h G' e'->g G' e' ≠ some (q,n')) :
  RW {c with F:=F'} g' (h.set G ob) nx' w':=by
 have hlive:∀G' e',G' ≠ G->Live (h.set G ob) G' e'->Live h G' e':=fun G' e' hne ⟨o,h1,h2⟩=>by
  rw[Tr.a1q,if_neg hne] at h1
  exact⟨o,h1,h2⟩
 have hliveG:∀e',Live (h.set G ob) G e'->a4t ob e':=fun e' ⟨o,h1,h2⟩=>by
  rw[Tr.a1q,if_pos rfl] at h1
  cases h1
  exact h2
 refine⟨hst.1.trans hw.os,hst.2.1.trans hw.tape,hst.2.2.1.trans hw.output,Nat.le_trans hw.size hst.2.2.2,fun q o hq=>(hK q o hq).trans (hw.keep q o hq),?_,fun G' hG'=>by rw[Tr.a1q,if_neg (by omega)];exact hw.dom G' (by omega),?_,?_,?_⟩
 ·intro G' e hG'
  have hne:G' ≠ G:=by omega
  rw[hg G' e hne]
  exact hw.free G' e (by omega)
 ·intro x f hx
  obtain⟨h1,h2⟩:=hres x f hx
  obtain⟨h3,h5,h4⟩:=hw.res x f h1
  exact⟨by omega,by rw[Tr.a1q,if_neg h2];exact h5,fun e=>by rw[hg x e h2];exact h4 e⟩
 ·intro G' o hget
  rw[Tr.a1q] at hget
  split at hget
  ·rename_i e
   subst e
   cases hget
   exact hok
  ·rename_i hne
   have:=(hw.ok G' o hget).mono (w':=w') hext (fun e=>hg G' e hne) fun e q n hl hq=>hoth G' e q n hne ⟨o,hget,hl⟩ hq
   exact this
 ·intro A B e e' q n n' ha hb ka kb
  by_cases hA:A=G<;>by_cases hB:B=G
  ·rw[hA,hB]
  ·subst hA
   rw[hg B e' hB] at kb
   exact absurd kb (hsep e q n (hliveG e ha) ka B e' n' hB (hlive B e' hB hb))
  ·subst hB
   rw[hg A e hA] at ka
   exact absurd ka (hsep e' q n' (hliveG e' hb) kb A e n hA (hlive A e hA ha))
  ·rw[hg A e hA] at ka
   rw[hg B e' hB] at kb
   exact hw.sep A B e e' q n n' (hlive A e hA ha) (hlive B e' hB hb) ka kb
theorem RW.drew(hw:RW c g h nx w):RW c g h nx w.drew:=⟨hw.os,hw.tape,hw.output,hw.size,hw.keep,hw.free,hw.dom,hw.res,fun G ob hG=>(hw.ok G ob hG).mono (Ext.refl g) (fun _=>rfl) fun _ _ _ _ _=>rfl,hw.sep⟩
theorem RW.a1r(hw:RW c g h nx w){G e q n:Nat}(hl:Live h G e)(hq:g G e=some (q,n)):c.K q=none/\q<w.heap.size:=by
 obtain⟨ob,h1,h2⟩:=hl
 have:=hw.ok G ob h1
 cases ob with
 |cells elem z nxe mem=>
  obtain⟨cs,hm⟩:=h2
  obtain⟨q',n',h3,h4,arr,fz,h5,_⟩:=this.2 e cs hm
  rw[hq] at h3
  cases h3
  exact⟨h4,(Array.getElem?_eq_some_iff.1 h5).1⟩
 |mp es ck=>
  cases h2
  obtain⟨_,q',arr,h3,h4,h5,_⟩:=this
  rw[hq] at h3
  cases h3
  exact⟨h4,(Array.getElem?_eq_some_iff.1 h5).1⟩
 |si s rest pos=>
  cases h2
  obtain⟨_,_,_,q',h3,h4,h5⟩:=this
  rw[hq] at h3
  cases h3
  exact⟨h4,(Array.getElem?_eq_some_iff.1 h5).1⟩
 |ot b=>
  cases h2
  obtain⟨_,q',o,h3,h4,h5,_⟩:=this
  rw[hq] at h3
  cases h3
  exact⟨h4,(Array.getElem?_eq_some_iff.1 h5).1⟩
theorem RW.a6s(hw:RW c g h nx w){G e:Nat}(hl:Live h G e):∀y f,c.F y=some f->c.F y=some f/\y ≠ G:=fun y f hy=>⟨hy,fun ee=>by
 subst ee
 obtain⟨ob,h1,_⟩:=hl
 rw[(hw.res y f hy).2.1] at h1
 cases h1⟩
def a5R(g:Gm)(G e:Nat)(x:Nat × Nat):Gm:=fun G' e'=>if G'=G/\e'=e then some x else g G' e'
theorem a0b{G e:Nat}{x:Nat × Nat}:a5R g G e x G e=some x:=by simp[a5R]
theorem a0I{G e:Nat}{x:Nat × Nat}(h0:g G e=none):Ext g (a5R g G e x):=fun G' e' y hy=>by
 unfold a5R
 split
 ·rename_i hh
  rw[hh.1,hh.2,h0] at hy
  cases hy
 ·exact hy
theorem a8q{G e G' e':Nat}{x:Nat × Nat}(h0:G' ≠ G):a5R g G e x G' e'=g G' e':=by simp[a5R,h0]
theorem a6P{G e e':Nat}{x:Nat × Nat}(h0:e' ≠ e):a5R g G e x G e'=g G e':=by simp[a5R,h0]
theorem RW.alloc(hw:RW c g h nx w){G:Nat}{F':Nat->Option (Nat->Option (Nat × Nat))}(hG:∀e,g G e=none)(hres:∀x f,F' x=some f->c.F x=some f/\x ≠ G)(hnx:nx<=nx')(hGn:G<nx'){vs:Array Value}{elem:TypeId}{cs:List RV}(hle:cs.length<=vs.size)(hr:∀j (h1:j<cs.length) (h2:j<vs.size),R g c.env cs[j] vs[j]) :
  RW {c with F:=F'} (a5R g G 0 (w.heap.size,vs.size)) (h.set G (.cells elem false 1 [(0,cs)])) nx' (w.alloc (.cells vs elem)):=by
 have hold:∀q,q<w.heap.size->(w.alloc (.cells vs elem)).heap[q]? = w.heap[q]? := fun q hq=>Below.heap_alloc w _ q hq
 have hext:=a0I (g:=g) (e:=0) (x:=(w.heap.size,vs.size)) (hG 0)
 refine hw.upd ⟨rfl,rfl,rfl,by simp⟩ (fun q o hq=>hold q ?_) (fun G' e' q n hne hl hq=>hold q (hw.a1r hl hq).2) hext (fun G' e' hne=>a8q hne) hres hnx hGn ?_ ?_
 ·exact(Array.getElem?_eq_some_iff.1 (hw.keep q o hq)).1
 ·refine⟨fun e he=>by rw[a6P (by omega)];exact hG e,fun e cs' hm=>?_⟩
  rw[List.mem_singleton] at hm
  cases hm
  refine⟨w.heap.size,vs.size,a0b,?_,vs,(0,0),heap_alloc_new w _,⟨fun _=>rfl,fun j _=>by simp⟩,rfl,hle,fun j h1 h2=>(hr j h1 h2).mono hext⟩
  cases hk:c.K w.heap.size with
  |none=>rfl
  |some o=>exact absurd (Array.getElem?_eq_some_iff.1 (hw.keep _ o hk)).1 (by omega)
 ·rintro e q n ⟨cs',hm⟩ hq G' e' n' hne hl hq'
  rw[List.mem_singleton] at hm
  cases hm
  rw[a0b] at hq
  cases hq
  have:=(hw.a1r hl hq').2
  omega
def b1g:List (Nat × List RV)->Nat->Option (List RV)
 |[],_=>none
 |(e,cs)::r,x=>bif Nat.beq e x then some cs else b1g r x
theorem a2E:∀ {l:List (Nat × List RV)} {x:Nat} {cs:List RV},b1g l x=some cs->(x,cs)∈l
 |(e,cs)::r,x,cs',hh=>by
  unfold b1g at hh
  cases hb:Nat.beq e x with
  |true=>
   rw[hb,cond_true] at hh
   cases hh
   rw[Nat.eq_of_beq_eq_true hb]
   exact List.mem_cons_self
  |false=>
   rw[hb,cond_false] at hh
   exact List.mem_cons_of_mem _ (a2E hh)
def a1P(h:Hp)(G e:Nat):Option (TypeId × Bool × Nat × List RV):=
 match h.get G with
 |some (.cells elem z nxe mem)=>match b1g mem e with
  |some cs=>some (elem,z,nxe,cs)
  |none=>none
 |_=>none
theorem RW.at_(hw:RW c g h nx w){G e q n nxe:Nat}{elem:TypeId}{z:Bool}{cs:List RV}(hc:a1P h G e=some (elem,z,nxe,cs))(hq:g G e=some (q,n)):c.K q=none/\Lies g c.env w q n elem z cs/\Live h G e/\(∀e,nxe<=e->g G e=none)/\e<nxe:=by
 unfold a1P at hc
 split at hc
 ·rename_i elem' z' nxe' mem hg
  split at hc
  ·rename_i cs' hf
   cases hc
   have hok:=hw.ok G _ hg
   obtain⟨q',n',h1,h2,h3⟩:=hok.2 e cs (a2E hf)
   rw[hq] at h1
   cases h1
   refine⟨h2,h3,⟨_,hg,cs,a2E hf⟩,hok.1,?_⟩
   rcases Nat.lt_or_ge e nxe with hlt|hge
   ·exact hlt
   ·rw[hok.1 e hge] at hq
    cases hq
  ·cases hc
 ·cases hc
theorem RW.setRow(hw:RW c g h nx w){G e q n nxe:Nat}{elem:TypeId}{z:Bool}{cs cs':List RV}(hc:a1P h G e=some (elem,z,nxe,cs))(hq:g G e=some (q,n)){arr arr':Array Value}{fz:Nat × Nat}(hold:w.heap[q]? = some (.cells arr elem fz))(hst:w'.os=w.os/\w'.tape=w.tape/\w'.output=w.output/\w'.heap.size=w.heap.size)(hoth:∀k,k ≠ q->w'.heap[k]? = w.heap[k]?)(hnew:w'.heap[q]? = some (.cells arr' elem fz))(hn:arr'.size=n)(hle:cs'.length<=n)(hr:∀j (h1:j<cs'.length) (h2:j<arr'.size),R g c.env cs'[j] arr'[j]) :
  RW c g (h.set G (.cells elem z nxe [(e,cs')])) nx w':=by
 obtain⟨hK,hl,hlive,hnx,helt⟩:=hw.at_ hc hq
 have hG:G<nx:=by
  rcases Nat.lt_or_ge G nx with hlt|hge
  ·exact hlt
  ·rw[hw.free G e hge] at hq
   cases hq
 refine hw.upd (F':=c.F) ⟨hst.1,hst.2.1,hst.2.2.1,Nat.le_of_eq hst.2.2.2.symm⟩ (fun k o hk=>hoth k fun e=>by rw[e,hK] at hk;cases hk) (fun G' e' k m hne hl' hk=>hoth k fun ee=>?_) (Ext.refl g) (fun _ _ _=>rfl) (hw.a6s hlive) (Nat.le_refl _) hG ?_ ?_
 ·subst ee
  exact hne (hw.sep _ _ _ _ _ _ _ hl' hlive hk hq)
 ·refine⟨hnx,fun e' cs'' hm=>?_⟩
  rw[List.mem_singleton] at hm
  cases hm
  obtain⟨arr0,fz0,a1,a2,_⟩:=hl
  rw[hold] at a1
  cases a1
  exact⟨q,n,hq,hK,arr',fz,hnew,a2,hn,hle,hr⟩
 ·rintro e' q' n' ⟨cs'',hm⟩ hq' G' e'' n'' hne hl' hq''
  rw[List.mem_singleton] at hm
  cases hm
  rw[hq] at hq'
  cases hq'
  exact hne (hw.sep _ _ _ _ _ _ _ hl' hlive hq'' hq)
end
end Go.Proofs.YtlimlmjljjmcpaaGreatDoor.Ax
namespace Go.Proofs.YtlimlmjljjmcpaaGreatDoor.Ax
open Go.RowKit
set_option linter.unusedVariables false
set_option linter.unusedSimpArgs false
def X_{β:Type}:Nat->(Nat->β)->β
 |0,k=>k 0
 |n+1,k=>k (Nat.succ n)
theorem J_{β:Type}(n:Nat)(k:Nat->β):X_ n k=k n:=by cases n<;>rfl
def b4Y{β:Type}:Int->(Int->β)->β
 |.ofNat n,k=>X_ n fun n=>k (.ofNat n)
 |.negSucc n,k=>X_ n fun n=>k (.negSucc n)
theorem b6Z{β:Type}(n:Int)(k:Int->β):b4Y n k=k n:=by cases n<;>simp[b4Y,J_]
def b8V{β:Type}:IntKind->(IntKind->β)->β
 |.i8,k=>k .i8|.i16,k=>k .i16|.i32,k=>k .i32|.i64,k=>k .i64
 |.u8,k=>k .u8|.u16,k=>k .u16|.u32,k=>k .u32|.u64,k=>k .u64
theorem b7u{β:Type}(n:IntKind)(k:IntKind->β):b8V n k=k n:=by cases n<;>rfl
def a8U{β:Type}:List Nat->(List Nat->β)->β
 |[],k=>k []
 |x::l,k=>X_ x fun x=>a8U l fun l=>k (x::l)
theorem a7g{β:Type}:∀(l:List Nat) (k:List Nat->β),a8U l k=k l
 |[],k=>rfl
 |x::l,k=>by rw[a8U,J_,a7g l]
def a4g{β:Type}:Value->(RV->β)->β
 |.bool true,k=>k (.lit (.bool true))
 |.bool false,k=>k (.lit (.bool false))
 |.int d n,k=>b8V d fun d=>b4Y n fun n=>k (.lit (.int d n))
 |.string s,k=>a8U (codes s) fun l=>k (.str l)
 |v,k=>k (.lit v)
theorem a3u{β:Type}(v:Value)(k:RV->β):a4g v k=k (ofV v):=by
 cases v with
 |bool b=>cases b<;>rfl
 |int d n=>simp[a4g,ofV,b7u,b6Z]
 |string s=>simp[a4g,ofV,a7g]
 |_=>rfl
def a5j{β:Type}:Nat->List RV->(List RV->Option β)->Option β
 |0,_,k=>k []
 |n+1,x::l,k=>a5j n l fun r=>k (x::r)
 |_+1,[],_=>none
theorem a1t{β:Type}:∀ {n:Nat} {l:List RV} {k:List RV->Option β} {y:β},a5j n l k=some y->n<=l.length/\k (l.take n)=some y
 |0,l,k,y,h=>⟨Nat.zero_le _,h⟩
 |n+1,[],k,y,h=>by cases h
 |n+1,x::l,k,y,h=>by
  obtain⟨h1,h2⟩:=a1t (n:=n) (l:=l) h
  exact⟨Nat.succ_le_succ h1,h2⟩
def a6x:List RV->Nat->List RV
 |l,0=>l
 |[],_+1=>[]
 |_::l,n+1=>a6x l n
theorem a6L:∀(l:List RV) (n:Nat),a6x l n=l.drop n
 |l,0=>by simp[a6x]
 |[],n+1=>rfl
 |x::l,n+1=>by rw[a6x,a6L l n];rfl
def b6h{β:Type}:List RV->List RV->(List RV->Option β)->Option β
 |cs,[],k=>k cs
 |_::cs,x::l,k=>b6h cs l fun r=>k (x::r)
 |[],_::_,_=>none
def b2H{β:Type}:List RV->Nat->List RV->(List RV->Option β)->Option β
 |cs,0,l,k=>b6h cs l k
 |c::cs,n+1,l,k=>b2H cs n l fun r=>k (c::r)
 |[],_+1,_,_=>none
theorem a9a{β:Type}:∀ {cs l:List RV} {k:List RV->Option β} {y:β},b6h cs l k=some y->l.length<=cs.length/\k (l++cs.drop l.length)=some y
 |cs,[],k,y,h=>⟨Nat.zero_le _,by cases cs<;>simpa[b6h] using h⟩
 |[],x::l,k,y,h=>by cases h
 |c::cs,x::l,k,y,h=>by
  obtain⟨h1,h2⟩:=a9a (cs:=cs) (l:=l) h
  exact⟨Nat.succ_le_succ h1,h2⟩
theorem a3S{β:Type}:∀ {cs:List RV} {n:Nat} {l:List RV} {k:List RV->Option β} {y:β},b2H cs n l k=some y->n+l.length<=cs.length/\k (cs.take n++l++cs.drop (n+l.length))=some y
 |cs,0,l,k,y,h=>by
  obtain⟨h1,h2⟩:=a9a (cs:=cs) (l:=l) (by cases cs<;>exact h)
  exact⟨by omega,by simpa using h2⟩
 |[],n+1,l,k,y,h=>by cases h
 |c::cs,n+1,l,k,y,h=>by
  obtain⟨h1,h2⟩:=a3S (cs:=cs) (n:=n) (l:=l) h
  refine⟨by simp;omega,?_⟩
  have e:n+1+l.length=(n+l.length)+1:=by omega
  rw[e]
  exact h2
def b7w{β:Type}:List RV->List RV->(List RV->β)->β
 |[],m,k=>k m
 |x::l,m,k=>b7w l m fun r=>k (x::r)
theorem a4Y{β:Type}:∀(l m:List RV) (k:List RV->β),b7w l m k=k (l++m)
 |[],m,k=>rfl
 |x::l,m,k=>by rw[b7w,a4Y l];rfl
def b0g:List RV->Nat->Option RV
 |[],_=>none
 |x::_,0=>some x
 |_::l,n+1=>b0g l n
theorem a6E:∀(l:List RV) (n:Nat),b0g l n=l[n]?
 |[],n=>by simp[b0g]
 |x::l,0=>rfl
 |x::l,n+1=>by rw[b0g,a6E l n];rfl
def a5b{α β:Type}(t:Tr α)(n:Nat)(x:α)(k:Tr α->β):β:=Tr.a4Z x (n+1) t n k
theorem a0U{α β:Type}(t:Tr α)(n:Nat)(x:α)(k:Tr α->β):a5b t n x k=k (t.set n x):=Tr.a1K x (n+1) t n k
def Does(P:Program)(c c':Cx)(g:Gm)(m:Sem Value)(w:World)(r:RV)(h':Hp)(nx':Nat):Prop:=
 ∃g' v w',m.run P w=.ok v w'/\R g' c.env r v/\Ext g g'/\RW c' g' h' nx' w'
section
variable {P:Program} {c:Cx} {g:Gm} {h:Hp} {nx:Nat} {w:World}
theorem a2r(q off k:Nat):(⟨q,off,none⟩:Addr).add k=⟨q,off+k,none⟩:=by unfold Addr.add;split<;>simp_all
def a1E(P:Program)(g:Gm)(env:Nat->Value)(m:Sem Value)(r:RV):Prop:=∃v,(∀w,m.run P w=.ok v w)/\R g env r v
def b4R(P:Program)(s:TypeId)(r:RV)(f:Nat):Option RV:=
 match P.underlying s with
 |some (.struct fields)=>match fields[f]? with
  |some fl=>match P.info? fl.type with
   |some i=>if i.size=0 then none else match r with
    |.ptr G e off=>X_ (off+fl.offset) fun o=>some (.ptr G e o)
    |_=>none
   |none=>none
  |none=>none
 |_=>none
theorem b5U{s:TypeId}{r r':RV}{f:Nat}{v:Value}{env:Nat->Value}(hf:b4R P s r f=some r')(hr:R g env r v):a1E P g env (Instr.fieldAt s v f) r':=by
 unfold b4R at hf
 split at hf<;>try cases hf
 rename_i fields hu
 split at hf<;>try cases hf
 rename_i fl hfl
 split at hf<;>try cases hf
 rename_i i hi
 split at hf<;>try cases hf
 rename_i hz
 split at hf<;>try cases hf
 rename_i G e off
 rw[J_] at hf
 cases hf
 cases hr with
 |ptr hb=>
  rename_i q _
  refine⟨.pointer (some ⟨q,off+fl.offset,none⟩),fun w=>?_,.ptr hb⟩
  simp[Instr.fieldAt,run_underlying hu,hfl,Instr.sureAddr,fieldPlace,sizeOf,typeInfo,hi,hz,a2r]
def b4W(P:Program)(t:TypeId)(r:RV)(ix:RV):Option RV:=
 match P.underlying t with
 |some (.slice e)=>match P.info? e with
  |some i=>match r,ix with
   |.sl G m off len sz,.lit (.int k (.ofNat n))=>if n<len then X_ (off+n*i.size) fun o=>some (.ptr G m o) else none
   |_,_=>none
  |none=>none
 |some (.array len e)=>match P.info? e with
  |some i=>match r,ix with
   |.ptr G m off,.lit (.int k (.ofNat n))=>if n<len then X_ (off+n*i.size) fun o=>some (.ptr G m o) else none
   |.lit (.pointer (some ⟨b,off,none⟩)),.lit (.int k (.ofNat n))=>if n<len then X_ b fun b=>X_ (off+n*i.size) fun o=>some (.lit (.pointer (some ⟨b,o,none⟩))) else none
   |_,_=>none
  |none=>none
 |_=>none
theorem b5f{t:TypeId}{r ix r':RV}{v u:Value}{env:Nat->Value}(hf:b4W P t r ix=some r')(hr:R g env r v)(hx:R g env ix u):a1E P g env (Instr.indexAt t v u) r':=by
 unfold b4W at hf
 split at hf<;>try cases hf
 ·rename_i e hu
  split at hf<;>try cases hf
  rename_i i hi
  split at hf<;>try cases hf
  rename_i G m off len sz k n
  split at hf<;>try cases hf
  rename_i hn
  rw[J_] at hf
  cases hf
  cases hx
  cases hr with
  |sl hb hc hs=>
   rename_i q _ cap
   refine⟨.pointer (some ⟨q,off+n*i.size,none⟩),fun w=>?_,.ptr hb⟩
   simp[Instr.indexAt,asIntOf,run_underlying hu,sizeOf,typeInfo,hi,hn,a2r]
 ·rename_i len e hu
  split at hf<;>try cases hf
  rename_i i hi
  split at hf<;>try cases hf
  ·rename_i G m off k n
   split at hf<;>try cases hf
   rename_i hn
   rw[J_] at hf
   cases hf
   cases hx
   cases hr with
   |ptr hb=>
    rename_i q _
    refine⟨.pointer (some ⟨q,off+n*i.size,none⟩),fun w=>?_,.ptr hb⟩
    simp[Instr.indexAt,asIntOf,run_underlying hu,sizeOf,typeInfo,hi,hn,a2r,Instr.sureAddr]
  ·rename_i b off k n
   split at hf<;>try cases hf
   rename_i hn
   rw[J_,J_] at hf
   cases hf
   cases hx
   cases hr
   refine⟨.pointer (some ⟨b,off+n*i.size,none⟩),fun w=>?_,.lit _⟩
   simp[Instr.indexAt,asIntOf,run_underlying hu,sizeOf,typeInfo,hi,hn,a2r,Instr.sureAddr]
def b4q(P:Program)(h:Hp)(t:TypeId)(r:RV):Option RV:=
 match r with
 |.ptr G e off=>match a1P h G e with
  |some (_,_,_,cs)=>match P.underlying t,P.info? t with
   |some d,some i=>if d.isRow then a5j i.size (a6x cs off) fun l=>some (.agg l) else b0g cs off
   |_,_=>none
  |_=>none
 |.lit (.pointer (some ⟨b,off,none⟩))=>match b9J b with
  |some l=>match P.underlying t with
   |some d=>if d.isRow then none else match l[off]? with
    |some v=>a4g v fun r=>some r
    |none=>none
   |none=>none
  |none=>none
 |_=>none
theorem a9m{t:TypeId}{r r':RV}{v:Value}(hf:b4q P h t r=some r')(hr:R g c.env r v)(hw:RW c g h nx w):∃u ad,v=.pointer (some ad)/\(Instr.loadAt t v).run P w=.ok u w/\R g c.env r' u:=by
 unfold b4q at hf
 split at hf<;>try cases hf
 rotate_left
 ·rename_i b off
  split at hf<;>try cases hf
  rename_i l hl
  split at hf<;>try cases hf
  rename_i d hu
  split at hf<;>try cases hf
  rename_i hd
  split at hf<;>try cases hf
  rename_i u hlu
  rw[a3u] at hf
  cases hf
  cases hr
  obtain⟨t',f,htab⟩:=c.tab b l hl
  have hk:=hw.keep b _ htab
  refine⟨u,_,rfl,?_,a4A _ _ _⟩
  have hagg:(isAgg t).run P w=.ok false w:=by
   unfold isAgg
   rw[Sem.run_bind,run_underlying hu w]
   cases d<;>simp_all
  have hc:w.cell? ⟨b,off,none⟩=some u:=by
   unfold World.cell?
   simp only[hk]
   simpa using hlu
  simp[Instr.loadAt,Instr.sureAddr,loadVar,Sem.run_bind,hagg,load,Sem.run,hc]
 rename_i G e off
 split at hf<;>try cases hf
 rename_i elem z nxe cs hb
 split at hf<;>try cases hf
 rename_i d i hu hi
 cases hr with
 |ptr hq=>
  rename_i q n
  have hl:=(hw.at_ hb hq).2.1
  split at hf
  ·rename_i hd
   rw[a6L] at hf
   obtain⟨hn,hk⟩:=a1t hf
   cases hk
   rw[List.length_drop] at hn
   by_cases hz:i.size=0
   ·refine⟨.agg #[],_,rfl,?_,by rw[hz];exact .agg rfl (fun j h1=>absurd h1 (by simp))⟩
    exact run_loadAt_mid w q off t [] d (fun j v hj=>by simp at hj) hu hd (by rw[hi];simp[hz])
   obtain⟨vs,hc,hlen,hrl⟩:=hl.range (off:=off) (n:=i.size) (by omega)
   refine⟨.agg vs.toArray,_,rfl,run_loadAt_mid w q off t vs d hc hu hd (by rw[hi,Option.map_some,hlen]),.agg (by simpa using hrl.len) (fun j k1 k2=>?_)⟩
   exact hrl.at_ j k1 (by simpa using k2)
  ·rename_i hd
   rw[a6E] at hf
   have hoff:=(List.getElem?_eq_some_iff.1 hf).1
   obtain⟨u,hc,hru,_⟩:=hl.cell hoff
   have hr':cs[off]=r':=(List.getElem?_eq_some_iff.1 hf).2
   rw[hr'] at hru
   refine⟨u,_,rfl,?_,hru⟩
   have hagg:(isAgg t).run P w=.ok false w:=by
    unfold isAgg
    rw[Sem.run_bind,run_underlying hu w]
    cases d<;>simp_all
   simp[Instr.loadAt,Instr.sureAddr,loadVar,Sem.run_bind,hagg,load,Sem.run,hc]
theorem b7J{t:TypeId}{r r':RV}{v:Value}(hf:b4q P h t r=some r')(hr:R g c.env r v)(hw:RW c g h nx w):Does P c c g (Instr.loadAt t v) w r' h nx:=by
 obtain⟨u,ad,_,h1,h2⟩:=a9m hf hr hw
 exact⟨g,u,w,h1,h2,Ext.refl g,hw⟩
def a5v:RV->Option (List RV)
 |.agg l=>some l
 |.tup _=>none
 |.lit v=>some (v.cells.toList.map ofV)
 |r=>some [r]
theorem a5M{env:Nat->Value}{r:RV}{l:List RV}{v:Value}(hc:a5v r=some l)(hr:R g env r v):RL g env l v.cells.toList:=by
 cases hr with
 |lit v=>cases hc;exact .lits _
 |opq i h1 h2=>cases hc;rw[h1];exact .cons (.opq i h1 h2) .nil
 |agg hn hh=>cases hc;exact⟨hn,fun i k1 k2=>hh i k1 (by simpa[Value.cells] using k2)⟩
 |tup hn hh=>cases hc
 |str hh=>cases hc;exact .cons (.str hh) .nil
 |ptr hb=>cases hc;exact .cons (.ptr hb) .nil
 |sl hb hcap hn=>cases hc;exact .cons (.sl hb hcap hn) .nil
 |s0 hb=>cases hc;exact .cons (.s0 hb) .nil
 |se a cap=>cases hc;exact .cons (.se a cap) .nil
 |ifc hh=>cases hc;exact .cons (.ifc hh) .nil
 |clo hm hk hn hh=>cases hc;exact .cons (.clo hm hk hn hh) .nil
 |mp hb=>cases hc;exact .cons (.mp hb) .nil
 |yld hb=>cases hc;exact .cons (.yld hb) .nil
def b7b:RV->Bool
 |.agg _|.tup _=>false
 |.lit v=>v.oneCell'
 |_=>true
theorem b9w{env:Nat->Value}{r:RV}{v:Value}(ho:b7b r=true)(hr:R g env r v):v.oneCell'=true:=by
 cases hr<;>first|exact ho|rfl|assumption|cases ho
theorem b4r{t:TypeId}{r:RV}{l:List RV}{v:Value}{G nx':Nat}{F':Nat->Option (Nat->Option (Nat × Nat))}(hc:a5v r=some l)(hr:R g c.env r v)(hw:RW c g h nx w)(hG:∀e,g G e=none)(hres:∀x f,F' x=some f->c.F x=some f/\x ≠ G)(hnx:nx<=nx')(hGn:G<nx') :
  Does P c {c with F:=F'} g (Instr.box t v) w (.ptr G 0 0) (h.set G (.cells t false 1 [(0,l)])) nx':=by
 have hl:=a5M hc hr
 have hlen:l.length=v.cells.size:=by have:=hl.len;simpa using this
 refine⟨_,.pointer (some ⟨w.heap.size,0,none⟩),w.alloc (.cells v.cells t),?_,.ptr (n:=v.cells.size) a0b,a0I (hG 0),hw.alloc hG hres hnx hGn (by omega) fun j h1 h2=>hl.at_ j h1 (by simpa using h2)⟩
 simp[Instr.box,newVar,newRow]
def b4F(P:Program)(t:TypeId):Option (List RV):=
 match P.info? t with
 |some i=>match i.zero with
  |some z=>some (z.cells.toList.map ofV)
  |none=>none
 |none=>none
theorem b4C{t:TypeId}{l:List RV}{G nx':Nat}{F':Nat->Option (Nat->Option (Nat × Nat))}(hf:b4F P t=some l)(hw:RW c g h nx w)(hG:∀e,g G e=none)(hres:∀x f,F' x=some f->c.F x=some f/\x ≠ G)(hnx:nx<=nx')(hGn:G<nx') :
  Does P c {c with F:=F'} g (Instr.alloc t true (.tuple #[])) w (.ptr G 0 0) (h.set G (.cells t false 1 [(0,l)])) nx':=by
 unfold b4F at hf
 split at hf<;>try cases hf
 rename_i i hi
 split at hf<;>try cases hf
 rename_i z hz
 have hb:=b4r (P:=P) (t:=t) (r:=.lit z) (l:=z.cells.toList.map ofV) (v:=z) rfl (.lit z) hw hG hres hnx hGn
 obtain⟨g',v,w',h1,h2,h3,h4⟩:=hb
 refine⟨g',v,w',?_,h2,h3,h4⟩
 rw[<-h1]
 simp[Instr.alloc,Instr.box,zeroValue,typeInfo,hi,hz]
theorem a2c(w:World)(q:Nat):∀(vs:List Value) (o:Nat) (arr:Array Value) (elem:TypeId) (fz:Nat × Nat),w.heap[q]? = some (.cells arr elem fz)->o+vs.length<=arr.size ->
  (w.setCells q o vs).heap[q]? = some (.cells ((arr.toList.take o++vs++arr.toList.drop (o+vs.length)).toArray) elem fz)/\(∀k,k ≠ q->(w.setCells q o vs).heap[k]? = w.heap[k]?)/\(w.setCells q o vs).os=w.os/\(w.setCells q o vs).tape=w.tape/\(w.setCells q o vs).output=w.output/\(w.setCells q o vs).heap.size=w.heap.size
 |[],o,arr,elem,fz,hq,hl=>by
  refine⟨?_,fun _ _=>rfl,rfl,rfl,rfl,rfl⟩
  show w.heap[q]? = _
  rw[hq]
  simp
 |v::vs,o,arr,elem,fz,hq,hl=>by
  have hl':o+vs.length+1<=arr.size:=by simpa[Nat.add_assoc] using hl
  have h1:(w.setCell ⟨q,o,none⟩ v).heap[q]? = some (.cells (arr.setIfInBounds o v) elem fz):=by
   simp[World.setCell,Array.getElem?_modify,hq]
  have ih:=a2c (w.setCell ⟨q,o,none⟩ v) q vs (o+1) (arr.setIfInBounds o v) elem fz h1 (by simp;omega)
  have hs:(w.setCell ⟨q,o,none⟩ v).heap.size=w.heap.size:=by simp[World.setCell]
  refine⟨?_,fun k hk=>?_,ih.2.2.1,ih.2.2.2.1,ih.2.2.2.2.1,ih.2.2.2.2.2.trans hs⟩
  ·refine ih.1.trans ?_
   congr 2
   apply Array.ext'
   simp only[Array.toList_setIfInBounds]
   apply List.ext_getElem?
   intro j
   have hlen:arr.toList.length=arr.size:=by simp
   have eo:o+1+vs.length=o+(v::vs).length:=by simp;omega
   rw[eo]
   have hto:(arr.toList.take o).length=o:=by rw[List.length_take];omega
   have ht1:((arr.toList.set o v).take (o+1)).length=o+1:=by rw[List.length_take,List.length_set];omega
   rcases Nat.lt_or_ge j o with hj|hj
   ·rw[List.append_assoc,List.append_assoc,List.getElem?_append_left (by omega),List.getElem?_append_left (by omega),List.getElem?_take,List.getElem?_take,if_pos (by omega),if_pos hj,List.getElem?_set_ne (by omega)]
   ·rcases Nat.eq_or_lt_of_le hj with rfl|hj'
    ·rw[List.append_assoc,List.append_assoc,List.getElem?_append_left (by omega),List.getElem?_append_right (by omega),hto,Nat.sub_self,List.getElem?_take,if_pos (by omega),List.getElem?_set_self (by omega)]
     rfl
    ·rw[List.append_assoc,List.append_assoc,List.getElem?_append_right (l₁:=(arr.toList.set o v).take (o+1)) (by rw[ht1];omega),List.getElem?_append_right (l₁:=arr.toList.take o) (by rw[hto];omega),ht1,hto]
     have e2:j - o=(j - (o+1))+1:=by omega
     rw[e2,List.cons_append,List.getElem?_cons_succ]
     rcases Nat.lt_or_ge (j - (o+1)) vs.length with hk|hk
     ·rw[List.getElem?_append_left hk,List.getElem?_append_left hk]
     ·rw[List.getElem?_append_right hk,List.getElem?_append_right hk,List.getElem?_drop,List.getElem?_drop,List.getElem?_set_ne (by omega)]
  ·exact(ih.2.1 k hk).trans (Below.heap_setCell w _ v k hk)
def b4I{β:Type}(P:Program)(h:Hp)(t:TypeId)(r x:RV)(k:Hp->Option β):Option β:=
 match r with
 |.ptr G e off=>match a1P h G e,a5v x,P.info? t with
  |some (elem,z,nxe,cs),some l,some i=>if l.length=i.size/\l.all b7b=true then b2H cs off l fun cs'=>a5b h G (.cells elem z nxe [(e,cs')]) k else none
  |_,_,_=>none
 |_=>none
theorem b5N{β:Type}{t:TypeId}{r x:RV}{v u:Value}{k:Hp->Option β}{y:β}(hf:b4I P h t r x k=some y)(hr:R g c.env r v)(hx:R g c.env x u)(hw:RW c g h nx w):∃h',k h'=some y /\ ∃w',(Instr.storeAt t v u).run P w=.ok () w'/\RW c g h' nx w':=by
 unfold b4I at hf
 split at hf<;>try cases hf
 rename_i G e off
 split at hf<;>try cases hf
 rename_i elem z nxe cs l i hb hc hi
 split at hf<;>try cases hf
 rename_i hh
 obtain⟨h1,h3⟩:=hh
 obtain⟨h2,hk⟩:=a3S hf
 rw[a0U] at hk
 refine⟨_,hk,?_⟩
 cases hr with
 |ptr hq=>
  rename_i q n
  have hl:=a5M hc hx
  obtain⟨hK,hlies,hlive,hnx,helt⟩:=hw.at_ hb hq
  have hlen:u.cells.toList.length=l.length:=hl.len.symm
  have hst:=run_storeCells_cells (P:=P) q off u.cells.toList 0 w (fun j hj=>by
    obtain⟨y,hy,_,_⟩:=hlies.cell (j:=off+j) (by omega)
    rw[Nat.add_zero,hy];rfl) (fun j hj=>by
    obtain⟨y,_,_,hy⟩:=hlies.cell (j:=off+j) (by omega)
    rw[Nat.add_zero];exact hy) (fun y hy=>by
    obtain⟨k,hk,rfl⟩:=List.getElem_of_mem hy
    exact b9w (List.all_eq_true.1 h3 _ (List.getElem_mem (by omega))) (hl.at_ k (by omega) hk))
  obtain⟨arr,fz,a1,af,a0,a2,a3⟩:=hlies
  have hset:=a2c w q u.cells.toList off arr elem fz a1 (by omega)
  refine⟨w.setCells q off u.cells.toList,?_,hw.setRow hb hq a1 ⟨hset.2.2.1,hset.2.2.2.1,hset.2.2.2.2.1,hset.2.2.2.2.2⟩ hset.2.1 hset.1 (by simp;simp at hlen;omega) (by simp;omega) ?_⟩
  ·have hs:u.cells.size=i.size:=by have:=hlen;simp at this;omega
   simp[Instr.storeAt,Instr.sureAddr,storeVar,sizeOf,typeInfo,hi,hs,hst]
  ·have hcs:RL g c.env cs (arr.toList.take cs.length):=⟨by simp;omega,fun j k1 k2=>by
    rw[List.getElem_take]
    have hja:j<arr.size:=by omega
    simpa using a3 j k1 hja⟩
   have hall:=((hcs.take off).append hl).append (hcs.drop (off+l.length))
   intro j k1 k2
   have hj2:j<(List.take off (List.take cs.length arr.toList)++u.cells.toList++List.drop (off+l.length) (List.take cs.length arr.toList)).length:=by rw[<-hall.len];exact k1
   have:=hall.at_ j k1 hj2
   have e:(List.take off arr.toList++u.cells.toList++List.drop (off+u.cells.toList.length) arr.toList).toArray[j]=(List.take off (List.take cs.length arr.toList)++u.cells.toList++List.drop (off+l.length) (List.take cs.length arr.toList))[j]:=by
    have e1:List.take off (List.take cs.length arr.toList)=List.take off arr.toList:=by
     rw[List.take_take,Nat.min_eq_left (by omega)]
    have e2:List.drop (off+l.length) (List.take cs.length arr.toList)=List.take (cs.length - (off+l.length)) (List.drop (off+l.length) arr.toList):=List.drop_take ..
    rw[List.getElem_toArray]
    apply Option.some.inj
    rw[<-List.getElem?_eq_getElem,<-List.getElem?_eq_getElem,e1,e2,hlen]
    rcases Nat.lt_or_ge j (List.take off arr.toList++u.cells.toList).length with hlt|hge
    ·rw[List.getElem?_append_left hlt,List.getElem?_append_left hlt]
    ·rw[List.getElem?_append_right hge,List.getElem?_append_right hge,List.getElem?_take,if_pos]
     have e3:(List.take off arr.toList++u.cells.toList).length=off+l.length:=by
      rw[List.length_append,List.length_take,Array.length_toList,hlen];omega
     rw[e3] at hge |-
     rw[e1,e2] at hj2
     simp only[List.length_append,List.length_take,List.length_drop,Array.length_toList,hlen] at hj2
     have:j<cs.length:=by
      have:=k1
      simp only[List.length_append,List.length_take,List.length_drop] at this
      omega
     omega
   rw[e]
   exact this
end
end Go.Proofs.YtlimlmjljjmcpaaGreatDoor.Ax
namespace Go.Proofs.YtlimlmjljjmcpaaGreatDoor.Ax
open Go.RowKit
set_option linter.unusedVariables false
set_option linter.unusedSimpArgs false
def b6F:List RV->Nat->Bool
 |[],_=>true
 |_::_,0=>false
 |_::l,n+1=>b6F l n
theorem b2Z:∀ {l:List RV} {n:Nat},b6F l n=true->l.length<=n
 |[],n,_=>Nat.zero_le _
 |x::l,0,h=>by cases h
 |x::l,n+1,h=>Nat.succ_le_succ (b2Z (l:=l) h)
def b3O{β:Type}(k:Nat):List (Nat × List RV)->Nat->(List (Nat × List RV)->β)->β
 |[],_,f=>f []
 |_,0,f=>f []
 |(e,cs)::r,lim+1,f=>bif b6F cs k then b3O k r lim fun r'=>f ((e,cs)::r') else b3O k r (lim+1) f
theorem a5F{β:Type}(k:Nat):∀(mem:List (Nat × List RV)) (lim:Nat) (f:List (Nat × List RV)->β),∃r',b3O k mem lim f=f r' /\ ∀p∈r',p∈mem/\p.2.length<=k
 |[],lim,f=>⟨[],by cases lim<;>rfl,fun p hp=>by cases hp⟩
 |p::r,0,f=>⟨[],rfl,fun p hp=>by cases hp⟩
 |(e,cs)::r,lim+1,f=>by
  unfold b3O
  cases hb:b6F cs k with
  |true=>
   obtain⟨r',h1,h2⟩:=a5F k r lim fun r'=>f ((e,cs)::r')
   refine⟨(e,cs)::r',h1,fun p hp=>?_⟩
   rcases List.mem_cons.1 hp with rfl|hp
   ·exact⟨List.mem_cons_self,b2Z hb⟩
   ·exact⟨List.mem_cons_of_mem _ (h2 p hp).1,(h2 p hp).2⟩
  |false=>
   obtain⟨r',h1,h2⟩:=a5F k r (lim+1) f
   exact⟨r',h1,fun p hp=>⟨List.mem_cons_of_mem _ (h2 p hp).1,(h2 p hp).2⟩⟩
section
variable {P:Program} {c:Cx} {g:Gm} {h:Hp} {nx:Nat} {w:World}
theorem RW.b6m(hw:RW c g h nx w){G e:Nat}{x:Nat × Nat}(hq:g G e=some x):G<nx:=by
 rcases Nat.lt_or_ge G nx with hlt|hge
 ·exact hlt
 ·rw[hw.free G e hge] at hq
  cases hq
theorem RW.room(hw:RW c g h nx w){G e q n nxe k:Nat}{elem:TypeId}{mem r':List (Nat × List RV)}{cs news:List RV}{vs:List Value}{arr:Array Value}(hget:h.get G=some (.cells elem false nxe mem))(hm:(e,cs)∈mem)(hq:g G e=some (q,n))(ha:w.heap[q]? = some (.cells arr elem (0,0)))(hk:k<=cs.length)(hr:RL g c.env news vs)(hfit:k+vs.length<=arr.size)(hkeep:∀p∈r',p∈mem/\p.2.length<=k){w':World}(hst:w'.os=w.os/\w'.tape=w.tape/\w'.output=w.output/\w'.heap.size=w.heap.size)(hoth:∀k',k' ≠ q->w'.heap[k']? = w.heap[k']?)(hrow:w'.heap[q]? = some (.cells (arr.toList.take k++vs++arr.toList.drop (k+vs.length)).toArray elem (0,0))) :
  RW c (a5R g G nxe (q,n)) (h.set G (.cells elem false (nxe+1) ((nxe,cs.take k++news)::r'))) nx w':=by
 have hok:=hw.ok G _ hget
 have hlive:Live h G e:=⟨_,hget,cs,hm⟩
 obtain⟨hK,hqlt⟩:=hw.a1r hlive hq
 obtain⟨q',n',h1,h2,arr',fz',a1,af,a0,a2,a3⟩:=hok.2 e cs hm
 rw[hq] at h1
 cases h1
 rw[ha] at a1
 cases a1
 have hnone:g G nxe=none:=hok.1 nxe (Nat.le_refl _)
 have hext:=a0I (x:=(q,n)) hnone
 have hsize:(arr.toList.take k++vs++arr.toList.drop (k+vs.length)).toArray.size=n:=by
  simp only[List.size_toArray,List.length_append,List.length_take,List.length_drop,Array.length_toList]
  omega
 have hcell:∀j (h1:j<k) (h2:j<(arr.toList.take k++vs++arr.toList.drop (k+vs.length)).toArray.size) (h3:j<arr.size),(arr.toList.take k++vs++arr.toList.drop (k+vs.length)).toArray[j]=arr[j]:=by
  intro j h1 h2 h3
  simp only[List.getElem_toArray]
  rw[List.getElem_append_left (by simp;omega),List.getElem_append_left (by simp;omega),List.getElem_take]
  rfl
 refine hw.upd (F':=c.F) ⟨hst.1,hst.2.1,hst.2.2.1,Nat.le_of_eq hst.2.2.2.symm⟩ (fun k' o hk'=>hoth k' fun ee=>by rw[ee,hK] at hk';cases hk') (fun G' e' k' m hne hl' hk'=>hoth k' fun ee=>?_) hext (fun G' e' hne=>a8q hne) (hw.a6s hlive) (Nat.le_refl _) (hw.b6m hq) ?_ ?_
 ·subst ee
  exact hne (hw.sep _ _ _ _ _ _ _ hl' hlive hk' hq)
 ·refine⟨fun e' he'=>by rw[a6P (by omega)];exact hok.1 e' (by omega),fun e' cs' hm'=>?_⟩
  rcases List.mem_cons.1 hm' with hm'|hm'
  ·cases hm'
   refine⟨q,n,a0b,hK,_,_,hrow,af,hsize,?_,fun j k1 k2=>?_⟩
   ·simp only[List.length_append,List.length_take]
    have:=hr.len
    omega
   ·by_cases hj:j<k
    ·rw[hcell j hj k2 (by omega)]
     simp only[List.getElem_append_left (show j<(cs.take k).length by simp;omega),List.getElem_take]
     exact(a3 j (by omega) (by omega)).mono hext
    ·have hl1:(cs.take k).length=k:=by simp;omega
     have hl2:(arr.toList.take k).length=k:=by simp;omega
     have hjn:j - k<news.length:=by
      simp only[List.length_append,hl1] at k1
      omega
     have hjv:j - k<vs.length:=by rw[<-hr.len];exact hjn
     have e2:(arr.toList.take k++vs++arr.toList.drop (k+vs.length)).toArray[j]=vs[j - k]:=by
      simp only[List.getElem_toArray]
      rw[List.getElem_append_left (by simp only[List.length_append,hl2];omega),List.getElem_append_right (by rw[hl2];omega)]
      simp only[hl2]
     have e3:(cs.take k++news)[j]=news[j - k]:=by
      rw[List.getElem_append_right (by rw[hl1];omega)]
      simp only[hl1]
     rw[e2,e3]
     exact(hr.at_ (j - k) hjn hjv).mono hext
  ·obtain⟨hmm,hlen⟩:=hkeep _ hm'
   obtain⟨q1,n1,b1,b2,b3⟩:=hok.2 e' cs' hmm
   refine⟨q1,n1,hext _ _ _ b1,b2,?_⟩
   by_cases e:q1=q
   ·subst e
    obtain⟨arr1,fz1,d1,df,d0,d2,d3⟩:=b3
    rw[ha] at d1
    cases d1
    refine⟨_,_,hrow,df,by omega,d2,fun j k1 k2=>?_⟩
    have hlen':cs'.length<=k:=hlen
    rw[hcell j (by omega) k2 (by omega)]
    exact(d3 j k1 (by omega)).mono hext
   ·exact b3.mono hext (hoth q1 e)
 ·rintro e' q1 n1 ⟨cs',hm'⟩ hq1 G' e'' n'' hne hl' hq''
  rcases List.mem_cons.1 hm' with hm'|hm'
  ·cases hm'
   rw[a0b] at hq1
   cases hq1
   exact hne (hw.sep _ _ _ _ _ _ _ hl' hlive hq'' hq)
  ·have hmm:=(hkeep _ hm').1
   obtain⟨q2,n2,b1,b2,b3⟩:=hok.2 e' cs' hmm
   have b1':=hext _ _ _ b1
   rw[hq1] at b1'
   cases b1'
   exact hne (hw.sep _ _ _ _ _ _ _ hl' ⟨_,hget,cs',hmm⟩ hq'' b1)
theorem RW.moved(hw:RW c g h nx w){G e q n nxe k:Nat}{elem:TypeId}{mem r':List (Nat × List RV)}{cells:List RV}{vs:List Value}(hget:h.get G=some (.cells elem false nxe mem))(hq:g G e=some (q,n))(hr:RL g c.env cells vs)(zs:Array Value){full:Array Value}(hf:full.toList=vs++zs.toList)(hlive:Live h G e)(hkeep:∀p∈r',p∈mem/\p.2.length<=k) :
  RW c (a5R g G nxe (w.heap.size,full.size)) (h.set G (.cells elem false (nxe+1) ((nxe,cells)::r'))) nx (w.drew.alloc (.cells full elem)):=by
 have hok:=hw.ok G _ hget
 have hnone:g G nxe=none:=hok.1 nxe (Nat.le_refl _)
 have hext:=a0I (x:=(w.heap.size,full.size)) hnone
 have hold:∀q,q<w.heap.size->(w.drew.alloc (.cells full elem)).heap[q]? = w.heap[q]? := fun q hq=>Below.heap_alloc w.drew _ q hq
 have hnew:(w.drew.alloc (.cells full elem)).heap[w.heap.size]? = some (.cells full elem):=heap_alloc_new w.drew _
 have hfs:full.size=vs.length+zs.size:=by rw[<-Array.length_toList,hf];simp
 have hKn:c.K w.heap.size=none:=by
  cases hk:c.K w.heap.size with
  |none=>rfl
  |some o=>exact absurd (Array.getElem?_eq_some_iff.1 (hw.keep _ o hk)).1 (by omega)
 refine hw.upd (F':=c.F) ⟨rfl,rfl,rfl,by simp⟩ (fun k' o hk'=>hold k' (Array.getElem?_eq_some_iff.1 (hw.keep k' o hk')).1) (fun G' e' k' m hne hl' hk'=>hold k' (hw.a1r hl' hk').2) hext (fun G' e' hne=>a8q hne) (hw.a6s hlive) (Nat.le_refl _) (hw.b6m hq) ?_ ?_
 ·refine⟨fun e' he'=>by rw[a6P (by omega)];exact hok.1 e' (by omega),fun e' cs' hm'=>?_⟩
  rcases List.mem_cons.1 hm' with hm'|hm'
  ·cases hm'
   refine⟨w.heap.size,full.size,a0b,hKn,full,(0,0),hnew,⟨fun _=>rfl,fun j _=>by simp⟩,rfl,by have:=hr.len;omega,fun j h1 h2=>?_⟩
   have hjv:j<vs.length:=by rw[<-hr.len];exact h1
   have e1:full[j]=vs[j]:=by
    have h3:full.toList[j]? = vs[j]? := by rw[hf,List.getElem?_append_left hjv]
    rw[Array.getElem?_toList,Array.getElem?_eq_getElem h2,List.getElem?_eq_getElem hjv] at h3
    exact Option.some.inj h3
   rw[e1]
   exact(hr.at_ j h1 hjv).mono hext
  ·obtain⟨hmm,hlen⟩:=hkeep _ hm'
   obtain⟨q1,n1,b1,b2,b3⟩:=hok.2 e' cs' hmm
   exact⟨q1,n1,hext _ _ _ b1,b2,b3.mono hext (hold q1 (hw.a1r ⟨_,hget,cs',hmm⟩ b1).2)⟩
 ·rintro e' q1 n1 ⟨cs',hm'⟩ hq1 G' e'' n'' hne hl' hq''
  rcases List.mem_cons.1 hm' with hm'|hm'
  ·cases hm'
   rw[a0b] at hq1
   cases hq1
   have:=(hw.a1r hl' hq'').2
   omega
  ·have hmm:=(hkeep _ hm').1
   obtain⟨q2,n2,b1,b2,b3⟩:=hok.2 e' cs' hmm
   have b1':=hext _ _ _ b1
   rw[hq1] at b1'
   cases b1'
   exact hne (hw.sep _ _ _ _ _ _ _ hl' ⟨_,hget,cs',hmm⟩ hq'' b1)
theorem RW.made(hw:RW c g h nx w){elem:TypeId}{cells:List RV}{vs:List Value}(hr:RL g c.env cells vs)(zs:Array Value){full:Array Value}(hf:full.toList=vs++zs.toList) :
  RW c (a5R g nx 0 (w.heap.size,full.size)) (h.set nx (.cells elem false 1 [(0,cells)])) (nx+1) (w.drew.alloc (.cells full elem)):=by
 have hfs:full.size=vs.length+zs.size:=by rw[<-Array.length_toList,hf];simp
 refine hw.drew.alloc (F':=c.F) (fun e=>hw.free nx e (Nat.le_refl _)) (fun x f hx=>⟨hx,by have:=(hw.res x f hx).1;omega⟩) (Nat.le_succ _) (Nat.lt_succ_self _) (by have:=hr.len;omega) fun j h1 h2=>?_
 have hjv:j<vs.length:=by rw[<-hr.len];exact h1
 have e1:full[j]=vs[j]:=by
  have h3:full.toList[j]? = vs[j]? := by rw[hf,List.getElem?_append_left hjv]
  rw[Array.getElem?_toList,Array.getElem?_eq_getElem h2,List.getElem?_eq_getElem hjv] at h3
  exact Option.some.inj h3
 rw[e1]
 exact hr.at_ j h1 hjv
end
end Go.Proofs.YtlimlmjljjmcpaaGreatDoor.Ax
namespace Go.Proofs.YtlimlmjljjmcpaaGreatDoor.Ax
open Go.RowKit
set_option linter.unusedVariables false
set_option linter.unusedSimpArgs false
def b0D{α:Type}(P:Program):Sem α->Option α
 |.pure a=>some a
 |.program k=>b0D P (k P)
 |.mark _ k=>b0D P k
 |_=>none
def a6z(P:Program)(m:Sem Value):Option RV:=
 match b0D P m with
 |some v=>a4g v some
 |none=>none
mutual
def a6f:RV->Option Value
 |.lit v=>some v
 |.str l=>some (.string (r_ l))
 |.agg l=>match a2k l with
  |some vs=>some (.agg vs.toArray)
  |none=>none
 |.ifc t r=>match a6f r with
  |some v=>some (.iface t v)
  |none=>none
 |_=>none
def a2k:List RV->Option (List Value)
 |[]=>some []
 |r::l=>match a6f r with
  |some v=>match a2k l with
   |some vs=>some (v::vs)
   |none=>none
  |none=>none
end
def a3C:List Nat->List Nat->Bool
 |[],[]=>true
 |x::l,y::m=>bif Nat.beq x y then a3C l m else false
 |_,_=>false
def a5o:List Nat->List Nat->Bool
 |_,[]=>false
 |[],_::_=>true
 |x::l,y::m=>bif Nat.ble (x+1) y then true else bif Nat.beq x y then a5o l m else false
def c0s{β:Type}:List Nat->List Nat->(List Nat->β)->β
 |[],m,k=>k m
 |x::l,m,k=>c0s l m fun r=>k (x::r)
def takeN{β:Type}:Nat->List Nat->(List Nat->Option β)->Option β
 |0,_,k=>k []
 |n+1,x::l,k=>takeN n l fun r=>k (x::r)
 |_+1,[],_=>none
def b6f:List Nat->Nat->Option (List Nat)
 |l,0=>some l
 |[],_+1=>none
 |_::l,n+1=>b6f l n
def b9u:List Nat->Nat->Option Nat
 |[],_=>none
 |x::_,0=>some x
 |_::l,n+1=>b9u l n
def a5O(b:Bool):Option RV:=match b with
 |true=>some (.lit (.bool true))
 |false=>some (.lit (.bool false))
def c1A(op:BinOp)(l m:List Nat):Option RV:=
 match op with
 |.add=>bif Nat.ble (l.length+m.length) 1000000 then c0s l m fun r=>some (.str r) else none
 |.eql=>a5O (a3C l m)
 |.neq=>a5O (!a3C l m)
 |.lss=>a5O (a5o l m)
 |.leq=>a5O (!a5o m l)
 |.gtr=>a5O (a5o m l)
 |.geq=>a5O (!a5o l m)
 |_=>none
def a9V(P:Program)(t:TypeId)(r n:RV):Bool:=
 match r,n with
 |.ptr _ _ _,.lit (.pointer none)=>match P.underlying t with|some (.pointer _)=>true|_=>false
 |.sl _ _ _ _ _,.lit (.slice none 0 0)|.s0 _ _ _,.lit (.slice none 0 0)|.se,.lit (.slice none 0 0)=>match P.underlying t with|some (.slice _)=>true|_=>false
 |.clo _ _ _,.lit .nilFunc=>match P.underlying t with|some (.func _ _ _)=>true|_=>false
 |.ifc _ _,.lit .nilIface=>match P.underlying t with|some (.interface _)=>true|_=>false
 |.mp _,.lit (.map none)=>match P.underlying t with|some (.map _ _)=>true|_=>false
 |_,_=>false
def b6p(P:Program)(t:TypeId)(a b:RV):Option Bool:=
 match a,b with
 |.ptr G e off,.ptr G' e' off'=>bif Nat.beq G G'&&Nat.beq e e' then(match P.underlying t with
  |some (.pointer el)=>match P.info? el with
   |some i=>bif Nat.ble 1 i.size then some (Nat.beq off off') else none
   |none=>none
  |_=>none) else none
 |_,_=>none
def c1F(P:Program)(op:BinOp)(t:TypeId)(x y:Operand)(a b:RV):Option RV:=
 match a,b with
 |.lit u,.lit v=>a6z P (do eqGuard op t x y u v;binOp op t u v)
 |.str l,.str m=>c1A op l m
 |a,b=>match op with
  |.eql=>bif a9V P t a b || a9V P t b a then some (.lit (.bool false)) else match b6p P t a b with
   |some q=>a5O q
   |none=>match a6f a,a6f b with
    |some u,some v=>a6z P (do eqGuard op t x y u v;binOp op t u v)
    |_,_=>none
  |.neq=>bif a9V P t a b || a9V P t b a then some (.lit (.bool true)) else match b6p P t a b with
   |some q=>a5O (!q)
   |none=>match a6f a,a6f b with
    |some u,some v=>a6z P (do eqGuard op t x y u v;binOp op t u v)
    |_,_=>none
  |_=>none
def b1c{β:Type}(place:Nat->Option (Nat × Nat)):List (Nat × RV)->List RV->(List RV->Option β)->Option β
 |[],cs,k=>k cs
 |(i,r)::rest,cs,k=>match place i with
  |none=>none
  |some (off,size)=>match a5v r with
   |none=>none
   |some l=>bif Nat.beq l.length size then b2H cs off l fun cs'=>b1c place rest cs' k else none
def c0u(P:Program)(fields:Array Field):Option (Array (Nat × Nat)):=b0D P (fields.mapM fun f=>do pure (f.offset,<-sizeOf f.type))
def b4Z(P:Program)(t:TypeId)(parts:List (Nat × RV)):Option RV:=
 match P.info? t,P.underlying t with
 |some i,some (.struct fields)=>match i.zero with
  |some z=>match c0u P fields with
   |some places=>b1c (places[·]?) parts (z.cells.toList.map ofV) fun l=>some (.agg l)
   |none=>none
  |none=>none
 |some i,some (.array _ elem)=>match i.zero,P.info? elem with
  |some z,some j=>b1c (fun k=>some (k*j.size,j.size)) parts (z.cells.toList.map ofV) fun l=>some (.agg l)
  |_,_=>none
 |_,_=>none
def a1O(d:Nat):Option RV->Option Nat
 |none=>some d
 |some (.lit (.int _ (.ofNat n)))=>some n
 |some _=>none
def b5n(P:Program)(t:TypeId)(r:RV)(lo hi mx:Option RV):Option RV:=
 match P.underlying t with
 |some (.slice e)=>match P.info? e with
  |some i=>match r with
   |.sl G m off len sz=>match a1O 0 lo,a1O len hi with
    |some l,some k=>bif Nat.beq sz i.size&&Nat.ble l k&&Nat.ble k len then(match mx with
     |none=>bif Nat.ble (l+1) len || Nat.beq l 0 then X_ (off+l*sz) fun o=>X_ (k - l) fun n=>some (.sl G m o n sz) else some .se
     |some (.lit (.int _ (.ofNat x)))=>(match hi with
      |some _=>bif Nat.ble k x&&Nat.ble x len then(bif Nat.beq x l then some (.s0 G m off) else X_ (off+l*sz) fun o=>X_ (k - l) fun n=>some (.sl G m o n sz)) else none
      |none=>none)
     |some _=>none) else none
    |_,_=>none
   |.s0 G m off=>match a1O 0 lo,a1O 0 hi,mx with
    |some 0,some 0,none=>some (.s0 G m off)
    |_,_,_=>none
   |.se=>match a1O 0 lo,a1O 0 hi,mx with
    |some 0,some 0,none=>some .se
    |_,_,_=>none
   |.lit (.slice none 0 0)=>match a1O 0 lo,a1O 0 hi with
    |some l,some k=>bif Nat.beq l 0&&Nat.beq k 0 then(match mx with
     |none=>some (.lit (.slice none 0 0))
     |some (.lit (.int _ (.ofNat x)))=>bif Nat.beq x 0 then(match hi with
      |some _=>some (.lit (.slice none 0 0))
      |none=>none) else none
     |_=>none) else none
    |_,_=>none
   |_=>none
  |none=>none
 |some .string=>match r,mx with
  |.str s,none=>match a1O 0 lo,a1O s.length hi with
   |some l,some k=>bif Nat.ble l k then(match b6f s l with
    |some s'=>takeN (k - l) s' fun r=>some (.str r)
    |none=>none) else none
   |_,_=>none
  |_,_=>none
 |_=>none
def c1X(P:Program)(t:TypeId)(r:RV):Option RV:=
 match P.underlying t,r with
 |some .string,.str l=>X_ l.length fun n=>some (.lit (.int .i64 (.ofNat n)))
 |some (.slice _),.sl _ _ _ n _=>some (.lit (.int .i64 (.ofNat n)))
 |some (.slice _),.s0 _ _ _=>some (.lit (.int .i64 (.ofNat 0)))
 |some (.slice _),.se=>some (.lit (.int .i64 (.ofNat 0)))
 |some (.slice _),.lit (.slice none 0 0)=>some (.lit (.int .i64 (.ofNat 0)))
 |some (.array n _),_=>some (.lit (.int .i64 (.ofNat n)))
 |some (.map _ _),.lit (.map none)=>some (.lit (.int .i64 (.ofNat 0)))
 |_,_=>none
def c1Q(P:Program)(t:TypeId)(r:RV):Option RV:=
 match P.underlying t,r with
 |some (.slice _),.s0 _ _ _=>some (.lit (.int .i64 (.ofNat 0)))
 |some (.slice _),.lit (.slice none 0 0)=>some (.lit (.int .i64 (.ofNat 0)))
 |_,_=>none
def a9k:RV->Bool
 |.agg _=>true
 |.lit (.agg _)=>true
 |_=>false
def a7o(P:Program)(t:TypeId)(r:RV)(f:Nat):Option RV:=
 match P.underlying t,a5v r with
 |some (.struct fields),some cs=>match fields[f]? with
  |some fl=>match P.underlying fl.type,P.info? fl.type with
   |some d,some i=>if d.isRow then a5j i.size (a6x cs fl.offset) fun l=>some (.agg l) else b0g cs fl.offset
   |_,_=>none
  |none=>none
 |_,_=>none
def c1E(P:Program)(t:TypeId)(r ix:RV):Option RV:=
 match P.underlying t,r,ix with
 |some .string,.str l,.lit (.int _ (.ofNat n))=>match b9u l n with
  |some b=>some (.lit (.int .u8 (.ofNat b)))
  |none=>none
 |some (.array len e),.agg cs,.lit (.int _ (.ofNat n))=>match P.underlying e,P.info? e with
  |some d,some i=>bif Nat.ble (n+1) len then(if d.isRow then a5j i.size (a6x cs (n*i.size)) fun l=>some (.agg l) else b0g cs (n*i.size)) else none
  |_,_=>none
 |_,_,_=>none
def b9B(P:Program)(src dst:TypeId)(r:RV):Option RV:=
 match r with
 |.lit (.int k n)=>a6z P (convert src dst (.int k n))
 |.str l=>match P.underlying src,P.underlying dst with
  |some .string,some .string=>some (.str l)
  |_,_=>none
 |_=>none
def a9I:RV->Nat->Option RV
 |.tup l,i=>b0g l i
 |.lit (.tuple vs),i=>match vs[i]? with
  |some v=>some (ofV v)
  |none=>none
 |_,_=>none
def a6U:RV->Option RV
 |.ptr G e off=>some (.ptr G e off)
 |.clo f a l=>some (.clo f a l)
 |.lit (.pointer (some a))=>some (.lit (.pointer (some a)))
 |.lit (.func (.func f) a b)=>some (.lit (.func (.func f) a b))
 |_=>none
def a6v(P:Program)(m:Value->Value->Sem Value)(a b:RV):Option RV:=
 match a6f a,a6f b with
 |some u,some v=>a6z P (m u v)
 |_,_=>none
def a7V(P:Program)(t:Tr RV)(o:Oper):Option RV:=
 match o.op with
 |.move x|.assign x=>some (p_ t x)
 |.pick c a b=>match p_ t c with
  |.lit (.bool true)=>some (p_ t a)
  |.lit (.bool false)=>some (p_ t b)
  |_=>none
 |.build ty parts=>b4Z P ty (parts.toList.map fun p=>(p.1,p_ t p.2))
 |.nilCheck x=>a6U (p_ t x)
 |.binOp op ty x y _=>c1F P op ty x y (p_ t x) (p_ t y)
 |.unOp op _ x=>match a6f (p_ t x) with
  |some v=>a6z P (Op.unary op v)
  |none=>none
 |.convert src dst x=>b9B P src dst (p_ t x)
 |.makeFunc (.func f) first captured=>some (.clo f (first.toList.map (p_ t)) (captured.toList.map (p_ t)))
 |.slice ty x lo hi mx=>b5n P ty (p_ t x) (lo.map (p_ t)) (hi.map (p_ t)) (mx.map (p_ t))
 |.fieldAddr s x f=>b4R P s (p_ t x) f
 |.field ty x f=>bif a9k (p_ t x) then a7o P ty (p_ t x) f else none
 |.indexAddr ty x ix=>b4W P ty (p_ t x) (p_ t ix)
 |.index ty x ix=>c1E P ty (p_ t x) (p_ t ix)
 |.extract x i=>a9I (p_ t x) i
 |.call ⟨.builtin b,args,argTypes⟩=>match b,args.toList,argTypes.toList with
  |.len,[x],[ty]=>c1X P ty (p_ t x)
  |.cap,[x],[ty]=>c1Q P ty (p_ t x)
  |.unsafeSliceData,[x],_=>match p_ t x with
   |.sl G e off n s=>bif Nat.ble 1 n then some (.ptr G e off) else none
   |.lit (.slice none 0 0)=>some (.lit (.pointer none))
   |_=>none
  |.min,[x,y],_=>a6v P (fun u v=>Builtin.min_ argTypes o.type #[u,v]) (p_ t x) (p_ t y)
  |.max,[x,y],_=>a6v P (fun u v=>Builtin.max_ argTypes o.type #[u,v]) (p_ t x) (p_ t y)
  |_,_,_=>none
 |_=>none
def a4j(z:Array Value)(n:Nat):Array Value:=(Array.range n).map (z[· % z.size]!)
def b4Q(P:Program)(e:TypeId)(n:Nat):Option (List RV):=
 match P.info? e with
 |some i=>match i.zero with
  |some z=>bif Nat.ble (n*i.size) 10000 then some ((a4j z.cells (n*i.size)).toList.map ofV) else none
  |none=>none
 |none=>none
def a4Q{β:Type}:List RV->(List RV->β)->β
 |[],k=>k []
 |.lit v::l,k=>a4g v fun r=>a4Q l fun l=>k (r::l)
 |r::l,k=>a4Q l fun l=>k (r::l)
def a5B(P:Program)(t:Tr RV)(G:Nat)(o:Oper):Option (RV × OB):=
 match o.op with
 |.alloc ty=>match b4F P ty with
  |some l=>some (.ptr G 0 0,.cells ty false 1 [(0,l)])
  |none=>none
 |.box ty x=>match a5v (p_ t x) with
  |some l=>some (.ptr G 0 0,.cells ty false 1 [(0,l)])
  |none=>none
 |.buildSlice ty len parts=>match P.underlying ty with
  |some (.slice e)=>match P.info? e,b4Q P e len with
   |some i,some z=>b1c (fun k=>some (k*i.size,i.size)) (parts.toList.map fun p=>(p.1,p_ t p.2)) z fun cs=>bif Nat.beq (len*i.size) 0 then(bif Nat.beq len 0 then some (.s0 G 0 0,.cells e false 1 [(0,cs)]) else none) else some (.sl G 0 0 len i.size,.cells e false 1 [(0,cs)])
   |_,_=>none
  |_=>none
 |_=>none
def c0r{β:Type}(h:Hp)(sz:Nat)(x:RV)(k:Nat->List RV->Option β):Option β:=
 match x with
 |.sl G e off m s=>bif Nat.beq s sz then(match a1P h G e with
  |some (_,_,_,cs)=>a5j (m*s) (a6x cs off) fun l=>bif l.all b7b then k m l else none
  |none=>none) else none
 |.str l=>bif Nat.beq sz 1 then a4Q (l.map fun n=>.lit (.int .u8 (.ofNat n))) fun cs=>k l.length cs else none
 |.s0 _ _ _=>k 0 []
 |.se=>k 0 []
 |.lit (.slice none 0 0)=>k 0 []
 |_=>none
def isSlice:RV->Bool
 |.sl _ _ _ _ _|.s0 _ _ _|.se|.lit (.slice none 0 0)=>true
 |_=>false
def a4O(P:Program)(tx:TypeId):Bool:=
 match P.underlying tx with
 |some (.slice _)=>true
 |some .string=>true
 |_=>false
def a8S:RV->Bool
 |.s0 _ _ _=>true
 |.se=>true
 |.lit (.slice none 0 0)=>true
 |_=>false
def isStr:RV->Bool
 |.str _=>true
 |_=>false
def b2f(P:Program)(h:Hp)(nx:Nat)(ty tx:TypeId)(r x:RV):Option (RV × Hp × Nat):=
 match P.underlying ty with
 |some (.slice e)=>match P.info? e with
  |some i=>match i.zero with
   |some z=>bif Nat.beq z.cells.size i.size&&Nat.ble 1 i.size&&isSlice r&&a4O P tx then c0r h i.size x fun m news=>
     bif Nat.beq m 0 then some (r,h,nx) else match r with
     |.sl G mb 0 n s=>bif Nat.beq s i.size&&Nat.ble ((n+m)*i.bytes) 1000000000&&Nat.ble (n+m) 1000000000 then(match h.get G with
      |some (.cells el false nxe mem)=>bif Nat.beq el e then(match b1g mem mb with
       |some cs=>a5j (n*s) cs fun pre=>b7w pre news fun all=>b3O (n*s) mem 3 fun r'=>X_ (nxe+1) fun nxe'=>X_ (n+m) fun len=>
         a5b h G (.cells e false nxe' ((nxe,all)::r')) fun h'=>some (.sl G nxe 0 len s,h',nx)
       |none=>none) else none
      |_=>none) else none
     |.lit _|.s0 _ _ _=>bif Nat.ble (m*i.bytes) 1000000000&&Nat.ble m 1000000000 then X_ m fun len=>X_ (nx+1) fun nx'=>a5b h nx (.cells e false 1 [(0,news)]) fun h'=>some (.sl nx 0 0 len i.size,h',nx') else none
     |_=>none
    else none
   |none=>none
  |none=>none
 |_=>none
def b8W(P:Program)(h:Hp)(ty:TypeId)(r x:RV):Option (RV × Hp):=
 match P.underlying ty with
 |some (.slice e)=>match P.info? e with
  |some i=>match r with
   |.sl G mb off n s=>bif Nat.beq s i.size&&Nat.ble 1 s then c0r h s x fun m news=>
     X_ (min m n) fun k=>bif Nat.beq k 0 then some (.lit (.int .i64 (.ofNat 0)),h) else a5j (k*s) news fun l=>(match a1P h G mb with
     |some (el,z,nxe,cs)=>b2H cs off l fun cs'=>a5b h G (.cells el z nxe [(mb,cs')]) fun h'=>some (.lit (.int .i64 (.ofNat k)),h')
     |none=>none) else none
   |r=>bif a8S r&&(isSlice x || isStr x) then some (.lit (.int .i64 (.ofNat 0)),h) else none
  |none=>none
 |_=>none
def b0A:RV->RV->Option Bool
 |.str l,.str m=>some (a3C l m)
 |.lit (.int j (.ofNat a)),.lit (.int k (.ofNat b))=>if j=k then some (Nat.beq a b) else none
 |.lit (.bool a),.lit (.bool b)=>some (a==b)
 |_,_=>none
def a2T(d:TypeDesc)(r:RV):Bool:=match d,r with
 |.string,.str _=>true
 |.int _,.lit (.int _ _)=>true
 |.bool,.lit (.bool _)=>true
 |_,_=>false
def b6k:List (RV × RV × Nat)->RV->Option (Option RV)
 |[],_=>some none
 |(k,v,_)::r,x=>match b0A x k with
  |some true=>some (some v)
  |some false=>b6k r x
  |none=>none
def c0p{β:Type}:List (RV × RV × Nat)->RV->RV->Nat->(List (RV × RV × Nat)->Bool->Option β)->Option β
 |[],x,v,ck,f=>f [(x,v,ck)] true
 |(k,u,b)::r,x,v,ck,f=>match b0A x k with
  |some true=>f ((x,v,b)::r) false
  |some false=>c0p r x v ck fun r' nw=>f ((k,u,b)::r') nw
  |none=>none
def b1L(P:Program)(h:Hp)(ty:TypeId)(m k v:RV):Option Hp:=
 match P.underlying ty,m with
 |some (.map kt et),.mp G=>match P.underlying kt,h.get G with
  |some d,some (.mp es ck)=>bif a2T d k&&b7b v then c0p es k v ck fun es' nw=>(match nw with
   |true=>X_ (ck+1) fun ck'=>a5b h G (.mp es' ck') some
   |false=>a5b h G (.mp es' ck) some) else none
  |_,_=>none
 |_,_=>none
def b8E(P:Program)(t:TypeId):Option RV:=
 match P.info? t with
 |some i=>match i.zero with
  |some z=>a4g z some
  |none=>none
 |none=>none
def b3M(h:Hp)(m:RV):Option (List (RV × RV × Nat)):=
 match m with
 |.mp G=>match h.get G with
  |some (.mp es _)=>some es
  |_=>none
 |.lit (.map none)=>some []
 |_=>none
def c1B(z:RV)(ok:Bool):Option RV->RV
 |some v=>match ok with
  |true=>.tup [v,.lit (.bool true)]
  |false=>v
 |none=>match ok with
  |true=>.tup [z,.lit (.bool false)]
  |false=>z
def b2k(P:Program)(h:Hp)(ty:TypeId)(m k:RV)(ok:Bool):Option RV:=
 match P.underlying ty with
 |some (.map kt et)=>match P.underlying kt,b8E P et with
  |some d,some z=>bif a2T d k then(match b3M h m with
   |some es=>match b6k es k with
    |some r=>some (c1B z ok r)
    |none=>none
   |none=>none) else none
  |_,_=>none
 |_=>none
inductive Cls where
 |pure|read|alloc|eff
 deriving DecidableEq
def c1z(P:Program)(o:Oper):Cls:=
 match o.op with
 |.load _ _|.lookup _ _ _ _=>.read
 |.alloc _|.box _ _|.buildSlice _ _ _|.makeSlice _ _ _=>.alloc
 |.convert src dst _=>match P.underlying src,P.underlying dst with
  |some .string,some (.slice _)=>.alloc
  |some (.slice _),_=>.read
  |some .unsafePointer,_=>.read
  |_,some .unsafePointer=>.read
  |_,_=>.pure
 |.store _ _ _|.mapUpdate _ _ _ _|.makeMap _ _|.mapEntry _ _ _|.entryStore _ _ _ _|.insert _ _ _ _|.range _ _|.next _ _|.entry _=>.eff
 |.call ⟨.builtin b,_,argTypes⟩=>match b with
  |.min|.max|.unsafeSliceData|.cap=>.pure
  |.len=>match argTypes.toList with
   |[ty]=>match P.underlying ty with
    |some (.map _ _)=>.read
    |_=>.pure
   |_=>.pure
  |_=>.eff
 |.call _=>.eff
 |_=>.pure
def b2r(P:Program)(h:Hp)(src dst:TypeId)(r:RV):Option RV:=
 match P.underlying src,P.underlying dst,r with
 |some (.pointer el),some .unsafePointer,.ptr G e off=>match P.info? el,a1P h G e with
  |some i,some (_,_,_,cs)=>match b0g cs off with
   |some _=>bif Nat.ble 1 i.size then some (.ptr G e off) else none
   |none=>none
  |_,_=>none
 |some .unsafePointer,some (.pointer u),.ptr G e off=>match P.info? u,a1P h G e with
  |some i,some (el,_,_,cs)=>bif liesAt P P.depth el (cs.length / P.cellsOf el) off u 1 then some (.ptr G e off) else none
  |_,_=>none
 |some (.pointer _),some .unsafePointer,.lit (.pointer none)=>some (.lit (.pointer none))
 |some .unsafePointer,some (.pointer _),.lit (.pointer none)=>some (.lit (.pointer none))
 |_,_,_=>none
def b6w{β:Type}:List RV->(List Nat->Option β)->Option β
 |[],k=>k []
 |.lit (.int .u8 (.ofNat n))::l,k=>bif Nat.ble (n+1) 256 then b6w l fun r=>k (n::r) else none
 |_::_,_=>none
def a5z(P:Program)(h:Hp)(ty:TypeId)(r:RV)(n:Nat):Option (RV × Hp):=
 match n,r with
 |0,.ptr _ _ _=>some (.str [],h)
 |0,.lit (.pointer none)=>some (.str [],h)
 |n+1,.ptr G e 0=>match P.underlying ty with
  |some (.pointer u)=>match h.get G with
   |some (.cells el false nxe mem)=>match b1g mem e with
    |some cs=>bif Nat.beq el u&&Nat.beq (P.cellsOf el) 1&&Nat.ble (n+1) 1000000 then a5j (n+1) cs fun l=>b6w l fun b=>a5b h G (.cells el false nxe []) fun h'=>some (.str b,h') else none
    |none=>none
   |_=>none
  |_=>none
 |_,_=>none
def a8Y(P:Program)(t:Tr RV)(h:Hp)(o:Oper):Option RV:=
 match o.op with
 |.load ty x=>b4q P h ty (p_ t x)
 |.convert src dst x=>b2r P h src dst (p_ t x)
 |.lookup ty m k ok=>b2k P h ty (p_ t m) (p_ t k) ok
 |_=>none
inductive RE where
 |ret (r:RV)
 |pan (r:RV)
inductive Who where
 |fn (f:FuncId)
 |yld (G:Nat)
abbrev Q_:=Who->List RV->Hp->Nat->Option (RE × Hp × Nat)
def a4S(r:RV)(args:List RV):Option (FuncId × List RV):=
 match r with
 |.lit (.func (.func f) first captured)=>match first.toList,captured.toList with
  |[],[]=>some (f,args)
  |_,_=>none
 |.clo f a l=>b7w args l fun r=>b7w a r fun all=>some (f,all)
 |_=>none
def b2g(P:Program)(f:FuncId)(args:List RV):Option RV:=
 match P.funcs[f]? with
 |some fn=>match fn.body with
  |some _=>none
  |none=>match a2k args with
   |some vs=>match b0D P (callFunc f vs.toArray) with
    |some (.value v)=>a4g v some
    |_=>none
   |none=>match args with
    |[r]=>if fn.name == "internal/abi.NoEscape" && (Extern.findNext fn).isNone then some r else none
    |_=>none
 |none=>none
def b5i(P:Program)(f:FuncId)(args:List RV)(h:Hp)(nx:Nat):Option (RE × Hp × Nat):=
 match P.funcs[f]? with
 |some fn=>match fn.body with
  |some _=>none
  |none=>match args with
   |[.lit (.int .i64 (.ofNat n))]=>match fn.resultTypes.toList with
    |[t]=>match P.underlying t with
     |some (.slice e)=>if fn.name == "internal/bytealg.MakeNoZero" && Nat.ble n 1000000&&(Extern.findNext fn).isNone then X_ (nx+1) fun nx'=>a5b h nx (.cells e false 1 [(0,[])]) fun h'=>some (.ret (.sl nx 0 0 n 1),h',nx') else none
     |_=>none
    |_=>none
   |_=>none
 |none=>none
def b6x(x:Option Hp)(nx:Nat):Option (RE × Hp × Nat):=
 match x with
 |some h=>some (.ret (.lit undef),h,nx)
 |none=>none
def b5g(P:Program)(call:Q_)(t:Tr RV)(h:Hp)(nx:Nat)(o:Oper):Option (RE × Hp × Nat):=
 match o.op with
 |.store ty a x=>b6x (b4I P h ty (p_ t a) (p_ t x) some) nx
 |.insert ty m k x=>b6x (b1L P h ty (p_ t m) (p_ t k) (p_ t x)) nx
 |.makeMap ty r=>match r with
  |none=>X_ (nx+1) fun nx'=>a5b h nx (.mp [] 0) fun h'=>some (.ret (.mp nx),h',nx')
  |some _=>none
 |.call ⟨.builtin b,args,argTypes⟩=>match b,args.toList,argTypes.toList with
  |.append,[r,x],[ty,tx]=>match b2f P h nx ty tx (p_ t r) (p_ t x) with
   |some (r,h',nx')=>some (.ret r,h',nx')
   |none=>none
  |.unsafeString,[x,n],[ty,_]=>match p_ t n with
   |.lit (.int .i64 (.ofNat n))=>match a5z P h ty (p_ t x) n with
    |some (r,h')=>some (.ret r,h',nx)
    |none=>none
   |_=>none
  |.copy,[r,x],ty::_=>match b8W P h ty (p_ t r) (p_ t x) with
   |some (r,h')=>some (.ret r,h',nx)
   |none=>none
  |_,_,_=>none
 |.call ⟨.value f,args,_⟩=>match a4S (p_ t f) (args.toList.map (p_ t)) with
  |some (f,ags)=>match b2g P f ags with
   |some r=>some (.ret r,h,nx)
   |none=>match b5i P f ags h nx with
    |some r=>some r
    |none=>call (.fn f) ags h nx
  |none=>none
 |_=>none
inductive DC where
 |call (f:FuncId) (ags:List RV)
structure St where
 tm:Tr RV
 n:Nat
 h:Hp
 nx:Nat
 ds:Option (List DC)
inductive RX where
 |normal
 |exit (id:Nat)
 |ret
 |panic (v:RV)
def a1b(t:Tr RV)(ops:Array Oper)(o:Oper):Option Bool:=
 match o.guard with
 |none=>some true
 |some (j,want)=>match(ops[j]?).bind (·.dst) with
  |none=>some false
  |some d=>match t.get d with
   |none=>some false
   |some (.lit (.bool b))=>match b,want with
    |true,true=>some true
    |false,false=>some true
    |_,_=>some false
   |some (.lit (.tuple _))=>some false
   |_=>none
def a5d{β:Type}(t:Tr RV)(n:Nat)(d:Option Tmp)(r:RV)(k:Tr RV->Option β):Option β:=
 match d with
 |none=>k t
 |some d=>bif Nat.ble (d+1) n then a5b t d r k else none
def opR(P:Program)(call:Q_)(t:Tr RV)(h:Hp)(nx:Nat)(o:Oper):Option (RE × Hp × Nat):=
 match c1z P o with
 |.pure=>match a7V P t o with
  |some r=>some (.ret r,h,nx)
  |none=>none
 |.read=>match a8Y P t h o with
  |some r=>some (.ret r,h,nx)
  |none=>none
 |.alloc=>match a5B P t nx o with
  |some (r,ob)=>X_ (nx+1) fun nx'=>a5b h nx ob fun h'=>some (.ret r,h',nx')
  |none=>none
 |.eff=>b5g P call t h nx o
def b9D(t:Tr RV)(o:Oper):Option (FuncId × List RV):=
 match o.op with
 |.defer ⟨.value f,args,_⟩=>a4S (p_ t f) (args.toList.map (p_ t))
 |_=>none
def a7k(P:Program)(call:Q_)(ops:Array Oper):List Oper->St->Option (RX × St)
 |[],s=>some (.normal,s)
 |o::rest,s=>match a1b s.tm ops o with
  |some true=>match opR P call s.tm s.h s.nx o with
   |some (.ret r,h',nx')=>a5d s.tm s.n o.dst r fun t'=>a7k P call ops rest ⟨t',s.n,h',nx',s.ds⟩
   |some (.pan v,h',nx')=>some (.panic v,⟨s.tm,s.n,h',nx',s.ds⟩)
   |none=>match b9D s.tm o with
    |some (f,ags)=>match s.ds with
     |some l=>a5d s.tm s.n o.dst (.lit undef) fun t'=>a7k P call ops rest ⟨t',s.n,s.h,s.nx,some (.call f ags::l)⟩
     |none=>none
    |none=>none
  |some false=>a5d s.tm s.n o.dst (.lit undef) fun t'=>a7k P call ops rest ⟨t',s.n,s.h,s.nx,s.ds⟩
  |none=>none
def b6e(body:St->Option (RX × St)):Nat->St->Option (RX × St)
 |0,_=>none
 |f+1,s=>match body s with
  |some (.normal,s')=>b6e body f s'
  |r=>r
abbrev a7J:=Array Oper->St->Option (RX × St)
def a3a(P:Program)(call:Q_)(draw:a7J):Code->St->Option (RX × St)
 |.skip,s=>some (.normal,s)
 |.seq a b,s=>match a3a P call draw a s with
  |some (.normal,s')=>a3a P call draw b s'
  |r=>r
 |.cond c a b,s=>match p_ s.tm c with
  |.lit (.bool true)=>a3a P call draw a s
  |.lit (.bool false)=>a3a P call draw b s
  |_=>none
 |.block id c,s=>match a3a P call draw c s with
  |some (.exit id',s')=>bif Nat.beq id' id then some (.normal,s') else some (.exit id',s')
  |r=>r
 |.loop c,s=>b6e (a3a P call draw c) 1000000 s
 |.exit id,s=>some (.exit id,s)
 |.label _,s=>some (.normal,s)
 |.ret,s=>some (.ret,s)
 |.region _ ops false,s=>a7k P call ops ops.toList s
 |.region _ ops true,s=>draw ops s
 |_,_=>none
def b2b(P:Program)(s:St):ResultVar->Option RV
 |.tmp t=>some (p_ s.tm (.tmp t))
 |.cell a ty=>b4q P s.h ty (p_ s.tm (.tmp a))
def a3k(P:Program)(s:St):List ResultVar->Option (List RV)
 |[]=>some []
 |x::l=>match b2b P s x with
  |some r=>match a3k P s l with
   |some rs=>some (r::rs)
   |none=>none
  |none=>none
def oneOf:List RV->RV
 |[r]=>r
 |l=>.tup l
def b8t{β:Type}:List RV->Nat->Tr RV->(Tr RV->β)->β
 |[],_,t,k=>k t
 |r::l,i,t,k=>a5b t i r fun t'=>b8t l (i+1) t' k
def b2L(P:Program)(f:FuncId):Option (Func × Code):=
 match P.funcs[f]? with
 |some fn=>if fn.name == "runtime.NumGoroutine" then none else match fn.body with
  |some c=>some (fn,c)
  |none=>none
 |none=>none
def isRecover(op:Op):Bool:=match op with
 |.call ⟨.builtin .recover,_,_⟩=>true
 |_=>false
def c1d(P:Program)(o:Oper):Bool:=match c1z P o with
 |.pure=>true
 |_=>false
def a4J(P:Program)(ops:Array Oper):List Oper->Tr RV->Nat->Option (Tr RV)
 |[],t,n=>some t
 |o::l,t,n=>match a1b t ops o with
  |some false=>a5d t n o.dst (.lit undef) fun t'=>a4J P ops l t' n
  |some true=>match isRecover o.op with
   |true=>a5d t n o.dst (.lit .nilIface) fun t'=>a4J P ops l t' n
   |false=>match c1d P o with
    |true=>match a7V P t o with
     |some r=>a5d t n o.dst r fun t'=>a4J P ops l t' n
     |none=>none
    |false=>none
  |none=>none
def a5i(P:Program):Code->Tr RV->Nat->Option (Bool × Tr RV)
 |.seq a b,t,n=>match a5i P a t n with
  |some (false,t')=>a5i P b t' n
  |r=>r
 |.cond c a b,t,n=>match p_ t c with
  |.lit (.bool true)=>a5i P a t n
  |.lit (.bool false)=>a5i P b t n
  |_=>none
 |.region _ ops false,t,n=>match a4J P ops ops.toList t n with
  |some t'=>some (false,t')
  |none=>none
 |.skip,t,n=>some (false,t)
 |.ret,t,n=>some (true,t)
 |_,_,_=>none
def a1c:Code->Bool
 |.seq a b=>a1c a || a1c b
 |.cond _ a b=>a1c a || a1c b
 |.region _ ops _=>ops.toList.any fun o=>isRecover o.op
 |_=>false
def b8B(P:Program)(f:FuncId)(ags:List RV):Bool:=match b2L P f with
 |some (fn,code)=>bif a1c code then(match fn.results.toList with
  |[]=>b8t ags 0 .leaf fun t=>(a5i P code t (max fn.ntmps ags.length)).isSome
  |_=>false) else false
 |none=>false
def b2n(P:Program)(orc call:Q_):List DC->Hp->Nat->Option (Hp × Nat)
 |[],h,nx=>some (h,nx)
 |.call f ags::ds,h,nx=>match b8B P f ags with
  |true=>b2n P orc call ds h nx
  |false=>none
def c1w(P:Program)(fn:Func)(s:St):Option (Hp × Nat)->Option (RE × Hp × Nat)
 |some (h,nx)=>match a3k P ⟨s.tm,s.n,h,nx,s.ds⟩ fn.results.toList with
  |some rs=>some (.ret (oneOf rs),h,nx)
  |none=>none
 |none=>none
def c0C(P:Program)(orc call:Q_)(fn:Func)(s:St):Option (List DC)->Option (RE × Hp × Nat)
 |some l=>c1w P fn s (b2n P orc call l s.h s.nx)
 |none=>none
def c1G(P:Program)(orc call:Q_)(fn:Func):Option (RX × St)->Option (RE × Hp × Nat)
 |some (.normal,s)=>c0C P orc call fn s s.ds
 |some (.ret,s)=>c0C P orc call fn s s.ds
 |some (.panic v,s)=>match s.ds with
  |some []=>some (.pan v,s.h,s.nx)
  |_=>none
 |_=>none
def b0F(P:Program)(orc call:Q_)(draw:a7J):Q_
 |.fn f,args,h,nx=>match b2L P f with
  |some (fn,c)=>match orc (.fn f) args h nx with
   |some r=>some r
   |none=>b8t args 0 .leaf fun t=>c1G P orc call fn (a3a P call draw c ⟨t,max fn.ntmps args.length,h,nx,some []⟩)
  |none=>none
 |.yld _,_,_,_=>none
def a0y(P:Program)(orc:Q_)(draw:Q_->a7J):Nat->Q_
 |0,_,_,_,_=>none
 |d+1,who,args,h,nx=>b0F P orc (a0y P orc draw d) (draw (a0y P orc draw d)) who args h nx
theorem a3F{α:Type}{P:Program}:∀ {t:Sem α} {a:α},b0D P t=some a -> ∀w,t.run P w=.ok a w
 |.pure b,a,h,w=>by cases h;rfl
 |.program k,a,h,w=>by
  show(k P).run P w=_
  exact a3F (t:=k P) h w
 |.mark _ k,a,h,w=>by
  show k.run P w=_
  exact a3F (t:=k) h w
 |.load ..,_,h,_|.store ..,_,h,_|.new ..,_,h,_|.shape ..,_,h,_|.freeze ..,_,h,_|.frozen ..,_,h,_|.getObj ..,_,h,_|.setObj ..,_,h,_|.choose ..,_,h,_|.sys ..,_,h,_|.halt ..,_,h,_=>by cases h
section
variable {P:Program} {g:Gm} {env:Nat->Value}
theorem a3L{m:Sem Value}{r:RV}(h:a6z P m=some r):a1E P g env m r:=by
 unfold a6z at h
 split at h<;>try cases h
 rename_i v hv
 rw[a3u] at h
 cases h
 exact⟨v,a3F hv,a4A _ _ _⟩
mutual
theorem a3O:∀ {r:RV} {v u:Value},a6f r=some v->R g env r u->u=v
 |.lit v',v,u,h,hr=>by cases h;cases hr;rfl
 |.str l,v,u,h,hr=>by cases h;cases hr;rfl
 |.agg l,v,u,h,hr=>by
  unfold a6f at h
  split at h<;>try cases h
  rename_i vs hvs
  cases hr with
  |agg hn hh=>
   rename_i us
   have:=b1W (us:=us.toList) hvs ⟨by simpa using hn,fun i h1 h2=>by simpa using hh i h1 (by simpa using h2)⟩
   rw[<-this]
 |.ifc t r,v,u,h,hr=>by
  unfold a6f at h
  split at h<;>try cases h
  rename_i v' hv'
  cases hr with
  |ifc hh=>rw[a3O hv' hh]
 |.opq i,v,u,h,hr=>by cases h
 |.ptr _ _ _,v,u,h,hr=>by cases h
 |.sl _ _ _ _ _,v,u,h,hr=>by cases h
 |.s0 _ _ _,v,u,h,hr=>by cases h
 |.se,v,u,h,hr=>by cases h
 |.tup _,v,u,h,hr=>by cases h
 |.clo _ _ _,v,u,h,hr=>by cases h
 |.mp _,v,u,h,hr=>by cases h
theorem b1W:∀ {l:List RV} {vs us:List Value},a2k l=some vs->RL g env l us->us=vs
 |[],vs,us,h,hr=>by
  cases h
  exact List.eq_nil_of_length_eq_zero (by rw[<-hr.len];rfl)
 |r::l,vs,[],h,hr=>by have:=hr.len;simp at this
 |r::l,vs,u::us,h,hr=>by
  unfold a2k at h
  split at h<;>try cases h
  rename_i v hv
  split at h<;>try cases h
  rename_i vs' hvs
  obtain⟨h1,h2⟩:=hr.tail
  rw[a3O hv h1,b1W hvs h2]
end
theorem a2M:∀ {l m:List Nat},a3C l m=true↔l=m
 |[],[]=>by simp[a3C]
 |[],_::_=>by simp[a3C]
 |_::_,[]=>by simp[a3C]
 |x::l,y::m=>by
  unfold a3C
  cases hb:Nat.beq x y with
  |true=>
   have:=Nat.eq_of_beq_eq_true hb
   subst this
   rw[cond_true,a2M]
   simp
  |false=>
   rw[cond_false]
   have:x ≠ y:=fun e=>by rw[e,Nat.beq_refl] at hb;cases hb
   simp[this]
theorem b0E{a b:Nat}(ha:a<256)(hb:b<256)(h:UInt8.ofNat a=UInt8.ofNat b):a=b:=by
 have:=congrArg UInt8.toNat h
 simp only[UInt8.toNat_ofNat'] at this
 omega
theorem a3b:∀ {l m:List Nat},(∀x∈l,x<256)->(∀x∈m,x<256)->l.map UInt8.ofNat=m.map UInt8.ofNat->l=m
 |[],[],_,_,_=>rfl
 |[],_::_,_,_,h=>by cases h
 |_::_,[],_,_,h=>by cases h
 |x::l,y::m,h1,h2,h=>by
  rw[List.map_cons,List.map_cons] at h
  injection h with e1 e2
  rw[b0E (h1 x List.mem_cons_self) (h2 y List.mem_cons_self) e1,a3b (fun z hz=>h1 z (List.mem_cons_of_mem _ hz)) (fun z hz=>h2 z (List.mem_cons_of_mem _ hz)) e2]
theorem a0J(l:List Nat):(r_ l).toList=l.map UInt8.ofNat:=ByteArray.toList_mk _
theorem b5G{l m:List Nat}(h1:∀x∈l,x<256)(h2:∀x∈m,x<256):((r_ l).toList==(r_ m).toList)=a3C l m:=by
 rw[a0J,a0J]
 by_cases h:l=m
 ·subst h
  rw[a2M.2 rfl]
  simp
 ·have e:a3C l m=false:=by
   cases hb:a3C l m with
   |false=>rfl
   |true=>exact absurd (a2M.1 hb) h
  rw[e]
  exact beq_eq_false_iff_ne.2 fun hh=>h (a3b h1 h2 hh)
theorem a8N:∀ {l m:List Nat},(∀x∈l,x<256)->(∀x∈m,x<256)->Op.bytesLess (l.map UInt8.ofNat) (m.map UInt8.ofNat)=a5o l m
 |_,[],_,_=>by simp[Op.bytesLess,a5o]
 |[],_::_,_,_=>by simp[Op.bytesLess,a5o]
 |x::l,y::m,h1,h2=>by
  have hx:=h1 x List.mem_cons_self
  have hy:=h2 y List.mem_cons_self
  have e1:decide (UInt8.ofNat x<UInt8.ofNat y)=decide (x<y):=by
   apply decide_eq_decide.2
   rw[UInt8.lt_iff_toNat_lt]
   simp only[UInt8.toNat_ofNat']
   rw[Nat.mod_eq_of_lt (by omega),Nat.mod_eq_of_lt (by omega)]
  have e2:(UInt8.ofNat x==UInt8.ofNat y)=decide (x=y):=by
   by_cases h:x=y
   ·simp[h]
   ·rw[decide_eq_false h]
    exact beq_eq_false_iff_ne.2 fun hh=>h (b0E hx hy hh)
  have e3:Nat.ble (x+1) y=decide (x<y):=by
   rw[Bool.eq_iff_iff,Nat.ble_eq,decide_eq_true_iff]
   omega
  have e4:Nat.beq x y=decide (x=y):=by
   rw[Bool.eq_iff_iff,Nat.beq_eq,decide_eq_true_iff]
  rw[List.map_cons,List.map_cons,Op.bytesLess,a5o,e2,e3,e4,a8N (fun z hz=>h1 z (List.mem_cons_of_mem _ hz)) (fun z hz=>h2 z (List.mem_cons_of_mem _ hz)),e1]
  cases decide (x<y)<;>cases decide (x=y)<;>simp
theorem b6y{β:Type}:∀(l m:List Nat) (k:List Nat->β),c0s l m k=k (l++m)
 |[],m,k=>rfl
 |x::l,m,k=>by rw[c0s,b6y l];rfl
theorem a9s{β:Type}:∀ {n:Nat} {l:List Nat} {k:List Nat->Option β} {y:β},takeN n l k=some y->n<=l.length/\k (l.take n)=some y
 |0,l,k,y,h=>⟨Nat.zero_le _,h⟩
 |n+1,[],k,y,h=>by cases h
 |n+1,x::l,k,y,h=>by
  obtain⟨h1,h2⟩:=a9s (n:=n) (l:=l) h
  exact⟨Nat.succ_le_succ h1,h2⟩
theorem a9e:∀ {l:List Nat} {n:Nat} {r:List Nat},b6f l n=some r->n<=l.length/\r=l.drop n
 |l,0,r,h=>by simp[b6f] at h;exact⟨Nat.zero_le _,by simp[h]⟩
 |[],n+1,r,h=>by cases h
 |x::l,n+1,r,h=>by
  obtain⟨h1,h2⟩:=a9e (l:=l) (n:=n) h
  exact⟨Nat.succ_le_succ h1,h2⟩
theorem b6E:∀(l:List Nat) (n:Nat),b9u l n=l[n]?
 |[],n=>by simp[b9u]
 |x::l,0=>rfl
 |x::l,n+1=>by rw[b9u,b6E l n];rfl
theorem a9y{b:Bool}{r:RV}(h:a5O b=some r):r=.lit (.bool b):=by
 cases b<;>cases h<;>rfl
theorem a8X(l m:List Nat):r_ l++r_ m=r_ (l++m):=by
 unfold r_
 rw[ByteArray.mk_append_mk,List.map_append]
theorem a1h(l:List Nat):(r_ l).size=l.length:=by
 simp[r_,ByteArray.size]
theorem b7U{op:BinOp}{l m:List Nat}{r:RV}(h:c1A op l m=some r)(h1:∀x∈l,x<256)(h2:∀x∈m,x<256):a1E P g env (Op.stringOp op (r_ l) (r_ m)) r:=by
 have hlt:∀ {l m:List Nat},(∀x∈l,x<256)->(∀x∈m,x<256)->Op.bytesLess (r_ l).toList (r_ m).toList=a5o l m:=fun k1 k2=>by
  rw[a0J,a0J]
  exact a8N k1 k2
 have tri:∀ {l m:List Nat},(a5o l m || a3C l m) = !a5o m l:=fun {l m}=>by
  induction l generalizing m with
  |nil=>cases m<;>simp[a5o,a3C]
  |cons x l ih=>
   rcases m with _|⟨y,m⟩
   ·simp[a5o,a3C]
   ·unfold a5o a3C
    have e3:∀x y,Nat.ble (x+1) y=decide (x<y):=fun x y=>by
     rw[Bool.eq_iff_iff,Nat.ble_eq,decide_eq_true_iff]
     omega
    have e4:∀x y,Nat.beq x y=decide (x=y):=fun x y=>by
     rw[Bool.eq_iff_iff,Nat.beq_eq,decide_eq_true_iff]
    simp only[e3,e4]
    rcases Nat.lt_trichotomy x y with h|h|h
    ·have a1:¬(x=y):=by omega
     have a2:¬(y<x):=by omega
     have a3:¬(y=x):=by omega
     simp[h,a1,a2,a3]
    ·subst h
     simp[ih]
    ·have a1:¬(x=y):=by omega
     have a2:¬(x<y):=by omega
     have a3:¬(y=x):=by omega
     simp[h,a1,a2,a3]
 unfold c1A at h
 cases op<;>dsimp only at h<;>try cases h
 case add=>
  cases hb:Nat.ble (l.length+m.length) 1000000 with
  |false=>rw[hb] at h;cases h
  |true=>
   rw[hb,cond_true,b6y] at h
   cases h
   have hle:=Nat.le_of_ble_eq_true hb
   refine⟨.string (r_ (l++m)),fun w=>?_,.str fun x hx=>?_⟩
   ·rw[run_string_add_sum w _ _ (by rw[a1h,a1h];omega),a8X]
   ·rcases List.mem_append.1 hx with hx|hx
    ·exact h1 x hx
    ·exact h2 x hx
 all_goals
  have:=a9y h
  subst this
  refine⟨_,fun w=>?_,.lit _⟩
  simp only[Op.stringOp,hlt h1 h2,hlt h2 h1,b5G h1 h2,tri,Bool.not_not]
  rfl
end
end Go.Proofs.YtlimlmjljjmcpaaGreatDoor.Ax
namespace Go.Proofs.YtlimlmjljjmcpaaGreatDoor.Ax
open Go.RowKit
set_option linter.unusedVariables false
set_option linter.unusedSimpArgs false
section
variable {P:Program} {g:Gm} {env:Nat->Value}
theorem b3W(op:BinOp)(t:TypeId)(x y:Operand)(u v:Value)(h1:u ≠ .nilIface\/v ≠ .nilIface)(h2:(∀cs,u ≠ .agg cs) \/ ∀cs,v ≠ .agg cs)(w:World):(eqGuard op t x y u v).run P w=.ok () w:=by
 have hop:op=.eql\/op=.neq\/(eqGuard op t x y u v=pure ()):=by
  cases op<;>first|exact .inl rfl|exact .inr (.inl rfl)|exact .inr (.inr rfl)
 rcases hop with rfl|rfl|hop
 iterate 2
  ·simp only[eqGuard,Bool.not_true,Bool.false_eq_true,if_false]
   split
   ·rcases h1 with h1|h1<;>exact absurd rfl h1
   ·rcases h2 with h2|h2
    ·exact absurd rfl (h2 _)
    ·exact absurd rfl (h2 _)
   ·rfl
 ·rw[hop]
  rfl
theorem guarded{op:BinOp}{t:TypeId}{x y:Operand}{u v:Value}{r:RV}(h1:u ≠ .nilIface\/v ≠ .nilIface)(h2:(∀cs,u ≠ .agg cs) \/ ∀cs,v ≠ .agg cs)(h:a1E P g env (binOp op t u v) r):a1E P g env (do eqGuard op t x y u v;binOp op t u v) r:=by
 obtain⟨b,k1,k2⟩:=h
 refine⟨b,fun w=>?_,k2⟩
 rw[Sem.run_bind,b3W op t x y u v h1 h2 w]
 exact k1 w
theorem a8R{t:TypeId}{u v:Value}{b:Bool}{w:World}(h:∀d,(Op.equalIn (d+1) t u v).run P w=.ok b w):(Op.equal t u v).run P w=.ok b w:=h 9999
theorem nil_eq{t:TypeId}{a b:RV}{u v:Value}(h:a9V P t a b=true)(ha:R g env a u)(hb:R g env b v) :
  (∀w,(Op.equal t u v).run P w=.ok false w)/\(∀w,(Op.equal t v u).run P w=.ok false w)/\(u ≠ .nilIface)/\(∀cs,u ≠ .agg cs)/\(∀k n,u ≠ .int k n)/\(∀k n,u ≠ .float k n)/\(∀k m n,u ≠ .complex k m n)/\(∀s,u ≠ .string s):=by
 unfold a9V at h
 split at h<;>try cases h
 all_goals
  split at h<;>try cases h
  rename_i hu
  cases hb
  cases ha
  refine⟨fun w=>a8R fun d=>?_,fun w=>a8R fun d=>?_,by simp,by simp,by simp,by simp,by simp,by simp⟩<;>simp[Op.equalIn,run_underlying hu]
theorem binOp_eql{t:TypeId}{u v:Value}{b:Bool}(h:∀w,(Op.equal t u v).run P w=.ok b w)(h1:(∀k n,u ≠ .int k n) \/ ∀k n,v ≠ .int k n)(h2:(∀k n,u ≠ .float k n) \/ ∀k n,v ≠ .float k n)(h3:(∀k m n,u ≠ .complex k m n) \/ ∀k m n,v ≠ .complex k m n)(h4:(∀s,u ≠ .string s) \/ ∀s,v ≠ .string s)(w:World) :
  (binOp .eql t u v).run P w=.ok (.bool b) w/\(binOp .neq t u v).run P w=.ok (.bool (!b)) w:=by
 constructor
 iterate 2
  ·unfold binOp
   split<;>first
    |(rename_i e1 e2 e3;cases e1)
    |skip
   all_goals first
    |(rcases h1 with h1|h1<;>exact absurd rfl (h1 _ _))
    |(rcases h2 with h2|h2<;>exact absurd rfl (h2 _ _))
    |(rcases h3 with h3|h3<;>exact absurd rfl (h3 _ _ _))
    |(rcases h4 with h4|h4<;>exact absurd rfl (h4 _))
    |(simp[h w];done)
    |simp_all
theorem same_eq{t:TypeId}{a b:RV}{u v:Value}{q:Bool}(h:b6p P t a b=some q)(ha:R g env a u)(hb:R g env b v) :
  (∀w,(Op.equal t u v).run P w=.ok q w)/\(u ≠ .nilIface)/\(∀cs,u ≠ .agg cs)/\(∀k n,u ≠ .int k n)/\(∀k n,u ≠ .float k n)/\(∀k m n,u ≠ .complex k m n)/\(∀s,u ≠ .string s):=by
 unfold b6p at h
 split at h<;>try cases h
 rename_i G e off G' e' off'
 cases hg:Nat.beq G G'&&Nat.beq e e' with
 |false=>rw[hg] at h;cases h
 |true=>
  rw[hg,cond_true] at h
  rw[Bool.and_eq_true] at hg
  have e1:=Nat.eq_of_beq_eq_true hg.1
  have e2:=Nat.eq_of_beq_eq_true hg.2
  subst e1 e2
  split at h<;>try cases h
  rename_i el hu
  split at h<;>try cases h
  rename_i i hi
  cases hz:Nat.ble 1 i.size with
  |false=>rw[hz] at h;cases h
  |true=>
   rw[hz,cond_true] at h
   cases h
   have hz':=Nat.le_of_ble_eq_true hz
   have hne:¬(i.size=0):=by omega
   cases ha with
   |ptr h1=>
    cases hb with
    |ptr h2=>
     rename_i q1 n1 q2 n2
     rw[h1] at h2
     cases h2
     refine⟨fun w=>?_,by simp,by simp,by simp,by simp,by simp,by simp⟩
     have e4:Nat.beq off off'=decide (off=off'):=by
      rw[Bool.eq_iff_iff,Nat.beq_eq,decide_eq_true_iff]
     rw[e4]
     have e5:((⟨q1,off,none⟩:Addr)==⟨q1,off',none⟩)=decide (off=off'):=by
      by_cases ho:off=off'
      ·subst ho;simp
      ·rw[decide_eq_false ho]
       exact beq_eq_false_iff_ne.2 fun hh=>ho (by injection hh)
     refine a8R fun d=>?_
     simp[Op.equalIn,run_underlying hu,sizeOf,typeInfo,hi,hne,sameAddr,e5]
theorem b7K{op:BinOp}{t:TypeId}{x y:Operand}{a b r:RV}{u v:Value}(h:c1F P op t x y a b=some r)(ha:R g env a u)(hb:R g env b v):a1E P g env (do eqGuard op t x y u v;binOp op t u v) r:=by
 have flat:∀ {u' v':Value},a6f a=some u'->a6f b=some v'->a6z P (do eqGuard op t x y u' v';binOp op t u' v')=some r->a1E P g env (do eqGuard op t x y u v;binOp op t u v) r:=fun k1 k2 k3=>by
  rw[a3O k1 ha,a3O k2 hb]
  exact a3L k3
 unfold c1F at h
 split at h
 ·exact flat rfl rfl h
 ·rename_i l m
  cases ha with
  |str h1=>
   cases hb with
   |str h2=>
    refine guarded (.inl (by simp)) (.inl (by simp)) ?_
    have:=b7U (P:=P) (g:=g) (env:=env) h h1 h2
    cases op<;>exact this
 ·rename_i hx1 hx2
  split at h<;>try cases h
  ·cases hn:a9V P t a b || a9V P t b a with
   |true=>
    rw[hn,cond_true] at h
    cases h
    rcases Bool.or_eq_true_iff.1 hn with hn|hn
    ·obtain⟨k1,k2,k3,k4,k5,k6,k7,k8⟩:=nil_eq hn ha hb
     exact guarded (.inl k3) (.inl k4) ⟨_,fun w=>(binOp_eql k1 (.inl k5) (.inl k6) (.inl k7) (.inl k8) w).1,.lit _⟩
    ·obtain⟨k1,k2,k3,k4,k5,k6,k7,k8⟩:=nil_eq hn hb ha
     exact guarded (.inr k3) (.inr k4) ⟨_,fun w=>(binOp_eql k2 (.inr k5) (.inr k6) (.inr k7) (.inr k8) w).1,.lit _⟩
   |false=>
    rw[hn,cond_false] at h
    split at h
    ·rename_i q hq
     have:=a9y h
     subst this
     obtain⟨k1,k3,k4,k5,k6,k7,k8⟩:=same_eq hq ha hb
     exact guarded (.inl k3) (.inl k4) ⟨_,fun w=>(binOp_eql k1 (.inl k5) (.inl k6) (.inl k7) (.inl k8) w).1,.lit _⟩
    ·split at h<;>try cases h
     rename_i u' v' k1 k2
     exact flat k1 k2 h
  ·cases hn:a9V P t a b || a9V P t b a with
   |true=>
    rw[hn,cond_true] at h
    cases h
    rcases Bool.or_eq_true_iff.1 hn with hn|hn
    ·obtain⟨k1,k2,k3,k4,k5,k6,k7,k8⟩:=nil_eq hn ha hb
     exact guarded (.inl k3) (.inl k4) ⟨_,fun w=>(binOp_eql k1 (.inl k5) (.inl k6) (.inl k7) (.inl k8) w).2,.lit _⟩
    ·obtain⟨k1,k2,k3,k4,k5,k6,k7,k8⟩:=nil_eq hn hb ha
     exact guarded (.inr k3) (.inr k4) ⟨_,fun w=>(binOp_eql k2 (.inr k5) (.inr k6) (.inr k7) (.inr k8) w).2,.lit _⟩
   |false=>
    rw[hn,cond_false] at h
    split at h
    ·rename_i q hq
     have:=a9y h
     subst this
     obtain⟨k1,k3,k4,k5,k6,k7,k8⟩:=same_eq hq ha hb
     exact guarded (.inl k3) (.inl k4) ⟨_,fun w=>(binOp_eql k1 (.inl k5) (.inl k6) (.inl k7) (.inl k8) w).2,.lit _⟩
    ·split at h<;>try cases h
     rename_i u' v' k1 k2
     exact flat k1 k2 h
end
end Go.Proofs.YtlimlmjljjmcpaaGreatDoor.Ax
namespace Go.Proofs.YtlimlmjljjmcpaaGreatDoor.Ax
open Go.RowKit
set_option linter.unusedVariables false
set_option linter.unusedSimpArgs false
theorem b9h{α:Type}(l vs:List α)(o:Nat)(v:α)(n:Nat)(h:o<l.length):(l.set o v).take (o+1)++vs++(l.set o v).drop (o+1+n)=l.take o++(v::vs)++l.drop (o+(n+1)):=by
 apply List.ext_getElem?
 intro j
 have hto:(l.take o).length=o:=by rw[List.length_take];omega
 have ht1:((l.set o v).take (o+1)).length=o+1:=by rw[List.length_take,List.length_set];omega
 rcases Nat.lt_or_ge j o with hj|hj
 ·rw[List.append_assoc,List.append_assoc,List.getElem?_append_left (by omega),List.getElem?_append_left (by omega),List.getElem?_take,List.getElem?_take,if_pos (by omega),if_pos hj,List.getElem?_set_ne (by omega)]
 ·rcases Nat.eq_or_lt_of_le hj with rfl|hj'
  ·rw[List.append_assoc,List.append_assoc,List.getElem?_append_left (by omega),List.getElem?_append_right (by omega),hto,Nat.sub_self,List.getElem?_take,if_pos (by omega),List.getElem?_set_self (by omega)]
   rfl
  ·rw[List.append_assoc,List.append_assoc,List.getElem?_append_right (l₁:=(l.set o v).take (o+1)) (by rw[ht1];omega),List.getElem?_append_right (l₁:=l.take o) (by rw[hto];omega),ht1,hto]
   have e2:j - o=(j - (o+1))+1:=by omega
   rw[e2,List.cons_append,List.getElem?_cons_succ]
   rcases Nat.lt_or_ge (j - (o+1)) vs.length with hk|hk
   ·rw[List.getElem?_append_left hk,List.getElem?_append_left hk]
   ·rw[List.getElem?_append_right hk,List.getElem?_append_right hk,List.getElem?_drop,List.getElem?_drop,List.getElem?_set_ne (by omega)]
    congr 1
    omega
theorem b0P(off:Nat):∀(vs:List Value) (k:Nat) (arr:Array Value),off+k+vs.length<=arr.size->((vs.zipIdx k).foldl (fun cs (c,j)=>cs.setIfInBounds (off+j) c) arr).toList=arr.toList.take (off+k)++vs++arr.toList.drop (off+k+vs.length)
 |[],k,arr,h=>by simp
 |v::vs,k,arr,h=>by
  simp only[List.length_cons] at h
  rw[List.zipIdx_cons,List.foldl_cons,b0P off vs (k+1) _ (by simp;omega),Array.toList_setIfInBounds]
  have:=b9h arr.toList vs (off+k) v vs.length (by simp;omega)
  rw[List.length_cons]
  exact this
section
variable {P:Program} {g:Gm} {env:Nat->Value} {t:Tr RV} {ρ:Operand->Value}
theorem b2x{β:Type}(place:Nat->Option (Nat × Nat)):∀(parts:List (Nat × Operand)) (cs:List RV) (arr:Array Value) (k:List RV->Option β) (y:β),RL g env cs arr.toList->(∀p∈parts,R g env (p_ t p.2) (ρ p.2))->b1c place (parts.map fun p=>(p.1,p_ t p.2)) cs k=some y ->
  ∃cs' arr',k cs'=some y/\Instr.fill place arr (parts.map fun p=>(p.1,ρ p.2))=some arr'/\RL g env cs' arr'.toList
 |[],cs,arr,k,y,hc,_,hs=>⟨cs,arr,hs,rfl,hc⟩
 |(i,x)::rest,cs,arr,k,y,hc,hp,hs=>by
  simp only[List.map_cons,b1c] at hs
  split at hs<;>try cases hs
  rename_i off size hpl
  split at hs<;>try cases hs
  rename_i l' hl
  cases hb:Nat.beq l'.length size with
  |false=>rw[hb] at hs;cases hs
  |true=>
   rw[hb,cond_true] at hs
   have h1:=Nat.eq_of_beq_eq_true hb
   obtain⟨h2,h3⟩:=a3S hs
   have hx:=a5M hl (hp (i,x) List.mem_cons_self)
   have hsz:(ρ x).cells.size=size:=by have:=hx.len;simp at this;omega
   have hal:arr.size=cs.length:=by have:=hc.len;simp at this;omega
   have hfold:=b0P off (ρ x).cells.toList 0 arr (by simp;omega)
   simp only[Nat.add_zero] at hfold
   have hlen:(ρ x).cells.toList.length=l'.length:=hx.len.symm
   have hnew:RL g env (cs.take off++l'++cs.drop (off+l'.length)) (((ρ x).cells.toList.zipIdx 0).foldl (fun cs (c,j)=>cs.setIfInBounds (off+j) c) arr).toList:=by
    rw[hfold,hlen]
    exact((hc.take off).append hx).append (hc.drop (off+l'.length))
   obtain⟨cs',arr',e0,e1,e2⟩:=b2x place rest _ _ k y hnew (fun p hp'=>hp p (List.mem_cons_of_mem _ hp')) h3
   refine⟨cs',arr',e0,?_,e2⟩
   rw[<-e1]
   simp only[List.map_cons,Instr.fill,hpl]
   rw[if_neg (by simp[hsz];omega)]
   congr 1
   rw[<-Array.foldl_toList,Array.toList_zipIdx]
theorem b3q{ty:TypeId}{parts:Array (Nat × Operand)}{r:RV}(hp:∀p∈parts.toList,R g env (p_ t p.2) (ρ p.2))(hs:b4Z P ty (parts.toList.map fun p=>(p.1,p_ t p.2))=some r):a1E P g env (Instr.build ty (parts.map fun(i,x)=>(i,ρ x))) r:=by
 have hparts:(parts.map fun(i,x)=>(i,ρ x)).toList=parts.toList.map fun p=>(p.1,ρ p.2):=by simp
 unfold b4Z at hs
 split at hs<;>try cases hs
 ·rename_i i fields hi hu
  split at hs<;>try cases hs
  rename_i z hz
  split at hs<;>try cases hs
  rename_i places hpl
  obtain⟨cs',arr',h1,e1,e2⟩:=b2x _ parts.toList _ z.cells _ _ (RL.lits _) hp hs
  cases h1
  refine⟨.agg arr',fun w=>?_,.agg (by simpa using e2.len) (fun j k1 k2=>e2.at_ j k1 (by simpa using k2))⟩
  unfold Instr.build
  rw[hparts]
  have hpl:=a3F hpl w
  simp only[bind_pure_comp] at hpl
  simp[zeroValue,typeInfo,hi,hz,run_underlying hu,hpl,e1]
 ·rename_i i m elem hi hu
  split at hs<;>try cases hs
  rename_i z j hz hj
  obtain⟨cs',arr',h1,e1,e2⟩:=b2x _ parts.toList _ z.cells _ _ (RL.lits _) hp hs
  cases h1
  refine⟨.agg arr',fun w=>?_,.agg (by simpa using e2.len) (fun j k1 k2=>e2.at_ j k1 (by simpa using k2))⟩
  unfold Instr.build
  rw[hparts]
  simp[zeroValue,sizeOf,typeInfo,hi,hz,hj,run_underlying hu,e1]
inductive OR(g:Gm)(env:Nat->Value):Option RV->Option Value->Prop
 |none:OR g env none none
 |some {r:RV} {v:Value} (h:R g env r v):OR g env (some r) (some v)
theorem OR.map{x:Option Operand}(h:∀y∈x.toArray,R g env (p_ t y) (ρ y)):OR g env (x.map (p_ t)) (x.map ρ):=by
 cases x with
 |none=>exact .none
 |some y=>exact .some (h y (by simp))
theorem a6I{r:Option RV}{v:Option Value}{d n:Nat}(hb:a1O d r=some n)(hr:OR g env r v):(r=none/\v=none/\n=d)\/(∃r',r=some r') /\ ∃k,v=some (.int k (Int.ofNat n)):=by
 cases hr with
 |none=>cases hb;exact .inl ⟨rfl,rfl,rfl⟩
 |some h=>
  unfold a1O at hb
  split at hb
  ·rename_i e
   cases e
  ·rename_i k m e
   cases e
   cases hb
   cases h
   exact .inr ⟨⟨_,rfl⟩,k,rfl⟩
  ·cases hb
theorem a1i{k:IntKind}{n y:Nat}{code:BoundsCode}(h:n<=y)(w:World):(Instr.sliceBound (.int k (Int.ofNat n)) y code).run P w=.ok n w:=by
 simp[Instr.sliceBound,asIntOf,h]
theorem a6N{len cap l k:Nat}{b:Bool}{lo hi:Option Value}(hl:(lo=none/\l=0) \/ ∃q,lo=some (.int q (Int.ofNat l)))(hk:(hi=none/\k=len) \/ ∃q,hi=some (.int q (Int.ofNat k)))(h1:l<=k)(h2:k<=cap)(w:World):(Instr.sliceBounds b len cap lo hi none).run P w=.ok (l,k,cap) w:=by
 rcases hl with⟨rfl,rfl⟩|⟨q,rfl⟩<;>rcases hk with⟨rfl,rfl⟩|⟨q',rfl⟩
 ·simp[Instr.sliceBounds]
 ·simp only[Instr.sliceBounds,Sem.run_bind,Sem.run_pure,Result.andThen_ok,a1i h2]
 ·simp only[Instr.sliceBounds,Sem.run_bind,Sem.run_pure,Result.andThen_ok,a1i h1]
 ·simp only[Instr.sliceBounds,Sem.run_bind,Sem.run_pure,Result.andThen_ok,a1i h1,a1i h2]
theorem b6z{len cap l k x:Nat}{b:Bool}{lo:Option Value}{q' q'':IntKind}(hl:(lo=none/\l=0) \/ ∃q,lo=some (.int q (Int.ofNat l)))(h1:l<=k)(h2:k<=x)(h3:x<=cap)(w:World):(Instr.sliceBounds b len cap lo (some (.int q' (Int.ofNat k))) (some (.int q'' (Int.ofNat x)))).run P w=.ok (l,k,x) w:=by
 rcases hl with⟨rfl,rfl⟩|⟨q,rfl⟩
 ·simp only[Instr.sliceBounds,Sem.run_bind,Sem.run_pure,Result.andThen_ok,a1i h2,a1i h3]
 ·simp only[Instr.sliceBounds,Sem.run_bind,Sem.run_pure,Result.andThen_ok,a1i h1,a1i h2,a1i h3]
theorem b3Q{ty:TypeId}{r r':RV}{lo hi mx:Option RV}{v:Value}{vl vh vm:Option Value}(hf:b5n P ty r lo hi mx=some r')(hr:R g env r v)(hl:OR g env lo vl)(hh:OR g env hi vh)(hm:OR g env mx vm):a1E P g env (Instr.sliceAt ty v vl vh vm) r':=by
 have two:∀ {len l k:Nat},a1O 0 lo=some l->a1O len hi=some k->((vl=none/\l=0) \/ ∃q,vl=some (.int q (Int.ofNat l)))/\((vh=none/\k=len) \/ ∃q,vh=some (.int q (Int.ofNat k))):=fun k1 k2=>by
  constructor
  ·rcases a6I k1 hl with⟨_,a,b⟩|⟨_,q,a⟩
   ·exact .inl ⟨a,b⟩
   ·exact .inr ⟨q,a⟩
  ·rcases a6I k2 hh with⟨_,a,b⟩|⟨_,q,a⟩
   ·exact .inl ⟨a,b⟩
   ·exact .inr ⟨q,a⟩
 unfold b5n at hf
 split at hf<;>try cases hf
 ·rename_i e ht
  split at hf<;>try cases hf
  rename_i i hi'
  split at hf<;>try cases hf
  ·rename_i G m off len sz
   split at hf<;>try cases hf
   rename_i l k hlo hhi
   obtain⟨hl2,hk2⟩:=two hlo hhi
   cases hb:Nat.beq sz i.size&&Nat.ble l k&&Nat.ble k len with
   |false=>rw[hb] at hf;cases hf
   |true=>
    rw[hb,cond_true] at hf
    rw[Bool.and_eq_true,Bool.and_eq_true] at hb
    obtain⟨⟨b1,b2⟩,b3⟩:=hb
    have hsz:=Nat.eq_of_beq_eq_true b1
    have h1:=Nat.le_of_ble_eq_true b2
    have h2:=Nat.le_of_ble_eq_true b3
    cases hr with
    |sl hq hc hn=>
    rename_i q n cap
    have hmul:∀y,l<=y->y<=cap->off+l*sz+(y - l)*sz<=n:=fun y hy1 hy2=>by
     have e:(y - l)*sz=y*sz - l*sz:=Nat.sub_mul _ _ _
     have e2:=Nat.mul_le_mul_right sz hy1
     have e3:=Nat.mul_le_mul_right sz hy2
     omega
    split at hf
    ·cases hm
     have hrun:∀w,(Instr.sliceAt ty (.slice (some ⟨q,off,none⟩) len cap) vl vh none).run P w=.ok (.slice (if cap=l then some ⟨q,off,none⟩ else some (Addr.add ⟨q,off,none⟩ (l*i.size))) (k - l) (cap - l)) w:=fun w=>by
      have hm:=a6N (P:=P) (b:=true) hl2 hk2 h1 (Nat.le_trans h2 hc) w
      simp[Instr.sliceAt,run_underlying ht,Instr.slice,hm,sizeOf,typeInfo,hi']
     cases hz:Nat.ble (l+1) len || Nat.beq l 0 with
     |true=>
      rw[hz,cond_true,J_,J_] at hf
      cases hf
      have hif:(if cap=l then(some ⟨q,off,none⟩:Option Addr) else some (Addr.add ⟨q,off,none⟩ (l*i.size)))=some ⟨q,off+l*sz,none⟩:=by
       rw[hsz]
       split
       ·rcases Bool.or_eq_true_iff.1 hz with h3|h3
        ·have:=Nat.le_of_ble_eq_true h3
         omega
        ·have:=Nat.eq_of_beq_eq_true h3
         subst this
         simp
       ·rw[a2r]
      refine⟨_,hrun,?_⟩
      rw[hif]
      exact .sl hq (by omega) (hmul cap (by omega) (Nat.le_refl _))
     |false=>
      rw[hz,cond_false] at hf
      cases hf
      refine⟨_,hrun,?_⟩
      have hk0:k - l=0:=by
       rw[Bool.or_eq_false_iff] at hz
       have:¬(l+1<=len):=fun hh=>by
        rw[Nat.ble_eq_true_of_le hh] at hz
        cases hz.1
       omega
      rw[hk0]
      split<;>exact .se _ _
    ·rename_i kk x
     split at hf<;>try cases hf
     rename_i r0
     cases hz:Nat.ble k x&&Nat.ble x len with
     |false=>rw[hz] at hf;cases hf
     |true=>
      rw[hz,cond_true] at hf
      rw[Bool.and_eq_true] at hz
      have h3:=Nat.le_of_ble_eq_true hz.1
      have h4:=Nat.le_of_ble_eq_true hz.2
      cases hm with
      |some hm'=>
      cases hm'
      rcases a6I hhi hh with⟨e0,_,_⟩|⟨_,q',rfl⟩
      ·cases e0
      have hrun:∀w,(Instr.sliceAt ty (.slice (some ⟨q,off,none⟩) len cap) vl (some (.int q' (Int.ofNat k))) (some (.int kk (Int.ofNat x)))).run P w=.ok (.slice (if x=l then some ⟨q,off,none⟩ else some (Addr.add ⟨q,off,none⟩ (l*i.size))) (k - l) (x - l)) w:=fun w=>by
       have hm:=b6z (P:=P) (b:=true) (len:=len) (q':=q') (q'':=kk) hl2 h1 h3 (Nat.le_trans h4 hc) w
       simp only[Int.ofNat_eq_natCast] at hm |-
       simp[Instr.sliceAt,run_underlying ht,Instr.slice,hm,sizeOf,typeInfo,hi']
      refine⟨_,hrun,?_⟩
      cases hxl:Nat.beq x l with
      |true=>
       rw[hxl,cond_true] at hf
       cases hf
       have:=Nat.eq_of_beq_eq_true hxl
       subst this
       have hk0:k - x=0:=by omega
       rw[if_pos rfl,hk0,Nat.sub_self]
       exact .s0 hq
      |false=>
       rw[hxl,cond_false,J_,J_] at hf
       cases hf
       have hne:¬(x=l):=fun e=>by
        rw[e,Nat.beq_refl] at hxl
        cases hxl
       rw[if_neg hne,a2r,<-hsz]
       exact .sl hq (by omega) (hmul x (by omega) (by omega))
    ·cases hf
  ·rename_i G m off
   split at hf<;>try cases hf
   rename_i hlo hhi
   cases hm
   obtain⟨hl2,hk2⟩:=two hlo hhi
   cases hr with
   |s0 hq=>
    refine⟨_,fun w=>?_,.s0 hq⟩
    have hm:=a6N (P:=P) (b:=true) (len:=0) (cap:=0) hl2 hk2 (Nat.le_refl _) (Nat.le_refl _) w
    simp[Instr.sliceAt,run_underlying ht,Instr.slice,hm,sizeOf,typeInfo,hi']
  ·split at hf<;>try cases hf
   rename_i hlo hhi
   cases hm
   obtain⟨hl2,hk2⟩:=two hlo hhi
   cases hr with
   |se a cap=>
    refine⟨_,fun w=>?_,.se a cap⟩
    have hm:=a6N (P:=P) (b:=true) (len:=0) (cap:=cap) hl2 hk2 (Nat.le_refl _) (Nat.zero_le _) w
    simp[Instr.sliceAt,run_underlying ht,Instr.slice,hm,sizeOf,typeInfo,hi',Addr.add]
  ·split at hf<;>try cases hf
   rename_i l k hlo hhi
   obtain⟨hl2,hk2⟩:=two hlo hhi
   cases hr
   cases hb:Nat.beq l 0&&Nat.beq k 0 with
   |false=>rw[hb] at hf;cases hf
   |true=>
   rw[hb,cond_true] at hf
   rw[Bool.and_eq_true] at hb
   have hl0:=Nat.eq_of_beq_eq_true hb.1
   have hk0:=Nat.eq_of_beq_eq_true hb.2
   split at hf
   ·cases hf
    cases hm
    refine⟨_,fun w=>?_,.lit _⟩
    have hm:=a6N (P:=P) (b:=true) (len:=0) (cap:=0) hl2 hk2 (by omega) (by omega) w
    simp[Instr.sliceAt,run_underlying ht,Instr.slice,hm,sizeOf,typeInfo,hi',hl0,hk0]
   ·rename_i kk x
    cases hx:Nat.beq x 0 with
    |false=>rw[hx] at hf;cases hf
    |true=>
    rw[hx,cond_true] at hf
    have hx0:=Nat.eq_of_beq_eq_true hx
    split at hf<;>try cases hf
    cases hm with
    |some hm'=>
    cases hm'
    rcases a6I hhi hh with⟨e0,_,_⟩|⟨_,q',rfl⟩
    ·cases e0
    refine⟨_,fun w=>?_,.lit _⟩
    have hm:=b6z (P:=P) (b:=true) (len:=0) (cap:=0) (x:=x) (q':=q') (q'':=kk) hl2 (show l<=k by omega) (by omega) (by omega) w
    simp only[Int.ofNat_eq_natCast] at hm |-
    simp[Instr.sliceAt,run_underlying ht,Instr.slice,hm,sizeOf,typeInfo,hi']
    omega
   ·cases hf
 ·rename_i ht
  split at hf<;>try cases hf
  rename_i s
  cases hm
  split at hf<;>try cases hf
  rename_i l k hlo hhi
  obtain⟨hl2,hk2⟩:=two hlo hhi
  cases hb:Nat.ble l k with
  |false=>rw[hb] at hf;cases hf
  |true=>
   rw[hb,cond_true] at hf
   have h1:=Nat.le_of_ble_eq_true hb
   split at hf<;>try cases hf
   rename_i s' hs'
   obtain⟨hd1,hd2⟩:=a9e hs'
   obtain⟨ht1,ht2⟩:=a9s hf
   cases ht2
   subst hd2
   rw[List.length_drop] at ht1
   cases hr with
   |str hlt=>
    refine⟨.string (r_ ((s.drop l).take (k - l))),fun w=>?_,.str fun x hx=>hlt x (List.mem_of_mem_drop (List.mem_of_mem_take hx))⟩
    have hm:=a6N (P:=P) (b:=false) (len:=s.length) (cap:=s.length) hl2 hk2 h1 (by omega) w
    have hex:(r_ s).extract l k=r_ ((s.drop l).take (k - l)):=by
     unfold r_
     rw[ByteArray.extract_mk,List.map_take,List.map_drop]
    simp[Instr.sliceAt,run_underlying ht,Instr.slice,a1h,hm,hex]
end
end Go.Proofs.YtlimlmjljjmcpaaGreatDoor.Ax
namespace Go.Proofs.YtlimlmjljjmcpaaGreatDoor.Ax
open Go.RowKit
set_option linter.unusedVariables false
set_option linter.unusedSimpArgs false
section
variable {P:Program} {g:Gm} {env:Nat->Value} {t:Tr RV} {ρ:Operand->Value}
theorem b7f{ty tt:TypeId}{r r':RV}{v:Value}(h:c1Q P ty r=some r')(hr:R g env r v):a1E P g env (Builtin.cap_ #[ty] tt #[v]) r':=by
 unfold c1Q at h
 split at h<;>try cases h
 ·rename_i hu
  cases hr with
  |s0 hq=>
   refine⟨_,fun w=>?_,.lit _⟩
   simp[Builtin.cap_,run_underlying hu,goInt]
 ·rename_i hu
  cases hr
  refine⟨_,fun w=>?_,.lit _⟩
  simp[Builtin.cap_,run_underlying hu,goInt]
theorem b8c{ty tt:TypeId}{r r':RV}{v:Value}(h:c1X P ty r=some r')(hr:R g env r v):a1E P g env (Builtin.len_ #[ty] tt #[v]) r':=by
 unfold c1X at h
 split at h<;>try cases h
 ·rename_i l hu
  rw[J_] at h
  cases h
  cases hr with
  |str hl=>
   refine⟨_,fun w=>?_,.lit _⟩
   simp[Builtin.len_,run_underlying hu,a1h,goInt]
 ·rename_i hu
  cases hr with
  |sl hq hc hn=>
   refine⟨_,fun w=>?_,.lit _⟩
   simp[Builtin.len_,run_underlying hu,goInt]
 ·rename_i hu
  cases hr with
  |s0 hq=>
   refine⟨_,fun w=>?_,.lit _⟩
   simp[Builtin.len_,run_underlying hu,goInt]
 ·rename_i hu
  cases hr with
  |se a cap=>
   refine⟨_,fun w=>?_,.lit _⟩
   simp[Builtin.len_,run_underlying hu,goInt]
 ·rename_i hu
  cases hr
  refine⟨_,fun w=>?_,.lit _⟩
  simp[Builtin.len_,run_underlying hu,goInt]
 ·rename_i hu
  refine⟨_,fun w=>?_,.lit _⟩
  simp[Builtin.len_,run_underlying hu,goInt]
 ·rename_i hu
  cases hr
  refine⟨_,fun w=>?_,.lit _⟩
  simp[Builtin.len_,run_underlying hu,goInt]
theorem b0y{e:TypeId}{d:TypeDesc}(hu:P.underlying e=some d)(w:World):(isAgg e).run P w=.ok d.isRow w:=by
 unfold isAgg
 rw[Sem.run_bind,run_underlying hu w]
 cases d<;>rfl
theorem a9G{e:TypeId}{d:TypeDesc}{i:TypeInfo}{cs:List RV}{off:Nat}{r':RV}{arr:Array Value}(hu:P.underlying e=some d)(hi:P.info? e=some i)(h:(if d.isRow then a5j i.size (a6x cs off) fun l=>some (RV.agg l) else b0g cs off)=some r')(hr:RL g env cs arr.toList):a1E P g env (part e arr off) r':=by
 have hlen:cs.length=arr.size:=by have:=hr.len;simpa using this
 split at h
 ·rename_i hd
  rw[a6L] at h
  obtain⟨h1,h2⟩:=a1t h
  cases h2
  rw[List.length_drop] at h1
  have hrl:=(hr.drop off).take i.size
  have hex:(arr.extract off (off+i.size)).toList=(arr.toList.drop off).take i.size:=by
   rw[Array.toList_extract]
   simp[List.extract]
  refine⟨.agg (arr.extract off (off+i.size)),fun w=>?_,.agg ?_ fun j k1 k2=>?_⟩
  ·unfold part
   rw[Sem.run_bind,b0y hu w]
   simp[hd,sizeOf,typeInfo,hi]
  ·have:=hrl.len
   simp at this |-
   omega
  ·have k2':j<((arr.toList.drop off).take i.size).length:=by
    simp at k2 |-
    omega
   have:=hrl.at_ j k1 k2'
   have e:(arr.extract off (off+i.size))[j]=((arr.toList.drop off).take i.size)[j]:=by
    rw[<-Array.getElem_toList k2]
    apply Option.some.inj
    rw[<-List.getElem?_eq_getElem,<-List.getElem?_eq_getElem,hex]
   rw[e]
   exact this
 ·rename_i hd
  rw[a6E] at h
  have h1:=(List.getElem?_eq_some_iff.1 h).1
  have h2:=(List.getElem?_eq_some_iff.1 h).2
  have h3:off<arr.size:=by omega
  refine⟨arr[off],fun w=>?_,by rw[<-h2];exact hr.at_ off h1 (by simpa using h3)⟩
  unfold part
  rw[Sem.run_bind,b0y hu w]
  simp[hd,h3]
theorem b8f{r:RV}{l:List RV}{v:Value}(hc:a5v r=some l)(hr:R g env r v)(ha:∃cs,v=.agg cs):∃cs,v=.agg cs/\RL g env l cs.toList:=by
 obtain⟨cs,rfl⟩:=ha
 exact⟨cs,rfl,a5M hc hr⟩
theorem a9O{ty:TypeId}{r r':RV}{f:Nat}{v:Value}(h:a7o P ty r f=some r')(hr:R g env r v)(hag:a9k r=true):a1E P g env (Instr.field ty v f) r':=by
 unfold a7o at h
 split at h<;>try cases h
 rename_i fields cs hu hc
 split at h<;>try cases h
 rename_i fl hfl
 split at h<;>try cases h
 rename_i d i hd hi
 have hagg:∃arr,v=.agg arr:=by
  cases hr with
  |agg hn hh=>exact⟨_,rfl⟩
  |lit v=>cases v<;>first|exact⟨_,rfl⟩|exact absurd hag (by simp[a9k])
  |_=>exact absurd hag (by simp[a9k])
 obtain⟨arr,rfl,hrl⟩:=b8f hc hr hagg
 obtain⟨u,h1,h2⟩:=a9G hd hi h hrl
 refine⟨u,fun w=>?_,h2⟩
 simp[Instr.field,run_underlying hu,hfl,asAgg,h1 w]
theorem b7r{ty:TypeId}{r ix r':RV}{v u:Value}(h:c1E P ty r ix=some r')(hr:R g env r v)(hx:R g env ix u):a1E P g env (Instr.index ty v u) r':=by
 unfold c1E at h
 split at h<;>try cases h
 ·rename_i l k n hu
  split at h<;>try cases h
  rename_i b hb
  rw[b6E] at hb
  cases hx
  cases hr with
  |str hl=>
   have hlt:=(List.getElem?_eq_some_iff.1 hb).1
   have hbe:=(List.getElem?_eq_some_iff.1 hb).2
   have hb256:=hl b (by rw[<-hbe];exact List.getElem_mem hlt)
   refine⟨_,fun w=>?_,.lit _⟩
   have hget:(r_ l)[n]? = some (UInt8.ofNat b):=by
    have hs:n<(r_ l).size:=by rw[a1h];exact hlt
    rw[ByteArray.getElem?_lt' _ _ hs]
    congr 1
    show(r_ l).data[n]=_
    simp[r_,hbe]
   simp[Instr.index,asIntOf,run_underlying hu,hget,hb256]
   omega
 ·rename_i len e cs k n hu
  split at h<;>try cases h
  rename_i d i hd hi
  cases hb:Nat.ble (n+1) len with
  |false=>rw[hb] at h;cases h
  |true=>
   rw[hb,cond_true] at h
   have hlt:=Nat.le_of_ble_eq_true hb
   cases hx
   cases hr with
   |agg hn hh=>
    rename_i arr
    obtain⟨u,h1,h2⟩:=a9G (arr:=arr) hd hi h ⟨by simpa using hn,fun i k1 k2=>by simpa using hh i k1 (by simpa using k2)⟩
    refine⟨u,fun w=>?_,h2⟩
    have hlt':n<len:=hlt
    simp[Instr.index,asIntOf,run_underlying hu,hlt',sizeOf,typeInfo,hi,h1 w]
theorem b6b{src dst:TypeId}{r r':RV}{v:Value}(h:b9B P src dst r=some r')(hr:R g env r v):a1E P g env (convert src dst v) r':=by
 unfold b9B at h
 split at h<;>try cases h
 ·cases hr
  exact a3L h
 ·split at h<;>try cases h
  rename_i h1 h2
  cases hr with
  |str hl=>
   refine⟨_,fun w=>?_,.str hl⟩
   simp[convert,run_underlying h1,run_underlying h2]
theorem b0n{r r':RV}{v:Value}{i:Nat}(hf:a9I r i=some r')(hr:R g env r v):a1E P g env (Instr.extract v i) r':=by
 unfold a9I at hf
 split at hf<;>try cases hf
 ·rename_i l
  rw[a6E] at hf
  cases hr with
  |tup hn hh=>
   rename_i vs
   have h1:=(List.getElem?_eq_some_iff.1 hf).1
   have e:=(List.getElem?_eq_some_iff.1 hf).2
   have hv:vs[i]? = some (vs[i]'(by omega)):=Array.getElem?_eq_getElem (by omega)
   refine⟨vs[i]'(by omega),fun w=>?_,by rw[<-e];exact hh i h1 (by omega)⟩
   simp[Instr.extract,hv]
 ·rename_i vs
  cases hr
  split at hf<;>try cases hf
  rename_i u hv
  refine⟨u,fun w=>?_,a4A _ _ _⟩
  simp[Instr.extract,hv]
theorem b0u{r r':RV}{v:Value}(hf:a6U r=some r')(hr:R g env r v):R g env r' v/\((∃a,v=.pointer (some a)) \/ ∃f a b,v=.func (.func f) a b):=by
 unfold a6U at hf
 split at hf<;>cases hf
 ·cases hr with
  |ptr h=>exact⟨.ptr h,.inl ⟨_,rfl⟩⟩
 ·cases hr with
  |clo h1 h2 h3 h4=>exact⟨.clo h1 h2 h3 h4,.inr ⟨_,_,_,rfl⟩⟩
 ·cases hr
  exact⟨.lit _,.inl ⟨_,rfl⟩⟩
 ·cases hr
  exact⟨.lit _,.inr ⟨_,_,_,rfl⟩⟩
theorem b3V{m:Value->Value->Sem Value}{a b r:RV}{u v:Value}(h:a6v P m a b=some r)(ha:R g env a u)(hb:R g env b v):a1E P g env (m u v) r:=by
 unfold a6v at h
 split at h<;>try cases h
 rename_i u' v' h1 h2
 rw[a3O h1 ha,a3O h2 hb]
 exact a3L h
theorem a9Y{ts:Array TypeId}{ty:TypeId}{a:Addr}{n c:Nat}(h:c ≠ 0)(w:World):(Builtin.unsafeSliceData_ ts ty #[.slice (some a) n c]).run P w=.ok (.pointer (some a)) w:=by
 show Sem.run P (if c ≠ 0 then pure (Value.pointer (some a)) else _) w=_
 rw[if_pos h]
 rfl
theorem a6r{ts:Array TypeId}{ty:TypeId}(w:World):(Builtin.unsafeSliceData_ ts ty #[.slice none 0 0]).run P w=.ok (.pointer none) w:=rfl
def b8D(P:Program)(g:Gm)(env:Nat->Value)(m:Sem Next)(r:RV):Prop:=∃v,(∀w,m.run P w=.ok (.value v) w)/\R g env r v
theorem a1E.vals{m:Sem Value}{r:RV}(h:a1E P g env m r):b8D P g env (do pure (Next.value (<-m))) r:=by
 obtain⟨v,h1,h2⟩:=h
 refine⟨v,fun w=>?_,h2⟩
 rw[Sem.run_bind,h1 w]
 rfl
theorem RL.map{l:List Operand}(h:∀x∈l,R g env (p_ t x) (ρ x)):RL g env (l.map (p_ t)) (l.map ρ):=
 ⟨by simp,fun i h1 h2=>by
  rw[List.getElem_map,List.getElem_map]
  exact h _ (List.getElem_mem _)⟩
theorem a5w{o:Oper}{r:RV}(h:a7V P t o=some r)(hρ:∀x∈o.op.operands,R g env (p_ t x) (ρ x)):b8D P g env (execOp ρ o) r:=by
 obtain⟨dst,op,type,pos,after,guard⟩:=o
 unfold a7V at h
 simp only at h hρ
 split at h<;>try cases h
 iterate 2
  ·exact⟨_,fun w=>rfl,hρ _ (by simp[Op.operands])⟩
 ·rename_i c a b
  have hc:=hρ c (by simp[Op.operands])
  split at h<;>try cases h
  ·rename_i e
   rw[e] at hc
   generalize hcv:ρ c=cv at hc
   cases hc
   refine⟨ρ a,fun w=>?_,hρ a (by simp[Op.operands])⟩
   simp[execOp,hcv,asBool]
  ·rename_i e
   rw[e] at hc
   generalize hcv:ρ c=cv at hc
   cases hc
   refine⟨ρ b,fun w=>?_,hρ b (by simp[Op.operands])⟩
   simp[execOp,hcv,asBool]
 ·rename_i ty parts
  exact(b3q (ρ:=ρ) (fun p hp=>hρ p.2 (by simp only[Op.operands,List.mem_toArray,List.mem_map];exact⟨p,hp,rfl⟩)) h).vals
 ·rename_i x
  obtain⟨h1,h2⟩:=b0u h (hρ x (by simp[Op.operands]))
  refine⟨ρ x,fun w=>?_,h1⟩
  rcases h2 with⟨a,h2⟩|⟨f,a,b,h2⟩<;>simp[execOp,h2]
 ·rename_i op ty x y yt
  exact(b7K h (hρ x (by simp[Op.operands])) (hρ y (by simp[Op.operands]))).vals
 ·rename_i op ty x
  split at h<;>try cases h
  rename_i v hv
  have:=a3O hv (hρ x (by simp[Op.operands]))
  have h2:=(a3L (g:=g) (env:=env) h).vals
  rw[<-this] at h2
  exact h2
 ·exact(b6b h (hρ _ (by simp[Op.operands]))).vals
 ·rename_i f first captured
  have h1:RL g env (first.toList.map (p_ t)) (first.toList.map ρ):=RL.map fun x hx=>hρ x (by simp only[Op.operands,Array.mem_append];exact .inl (by simpa using hx))
  have h2:RL g env (captured.toList.map (p_ t)) (captured.toList.map ρ):=RL.map fun x hx=>hρ x (by simp only[Op.operands,Array.mem_append];exact .inr (by simpa using hx))
  refine⟨.func (.func f) (first.map ρ) (captured.map ρ),fun w=>?_,.clo (by simp) (fun i k1 k2=>?_) (by simp) fun i k1 k2=>?_⟩
  ·simp[execOp,Instr.makeFunc]
  ·have:=h1.at_ i k1 (by simpa using k2)
   simpa using this
  ·have:=h2.at_ i k1 (by simpa using k2)
   simpa using this
 ·rename_i ty x lo hi mx
  exact(b3Q (v:=ρ x) h (hρ x (by simp[Op.operands])) (OR.map fun y hy=>hρ y (by simp[Op.operands] at hy |-;simp[hy])) (OR.map fun y hy=>hρ y (by simp[Op.operands] at hy |-;simp[hy])) (OR.map fun y hy=>hρ y (by simp[Op.operands] at hy |-;simp[hy]))).vals
 ·exact(b5U h (hρ _ (by simp[Op.operands]))).vals
 ·rename_i ty x f
  cases hb:a9k (p_ t x) with
  |false=>rw[hb] at h;cases h
  |true=>
   rw[hb,cond_true] at h
   exact(a9O h (hρ x (by simp[Op.operands])) hb).vals
 ·exact(b5f h (hρ _ (by simp[Op.operands])) (hρ _ (by simp[Op.operands]))).vals
 ·exact(b7r h (hρ _ (by simp[Op.operands])) (hρ _ (by simp[Op.operands]))).vals
 ·exact(b0n h (hρ _ (by simp[Op.operands]))).vals
 ·rename_i b args argTypes
  have hargs:∀x∈args,R g env (p_ t x) (ρ x):=fun x hx=>hρ x (by simp[Op.operands,Call.operands,hx])
  split at h<;>try cases h
  ·rename_i x ty e1 e2
   have ea:args=#[x]:=by rw[<-Array.toArray_toList (xs:=args),e1]
   have et:argTypes=#[ty]:=by rw[<-Array.toArray_toList (xs:=argTypes),e2]
   subst ea et
   have h2:=(b8c (tt:=type) h (hargs x (by simp))).vals
   obtain⟨v,k1,k2⟩:=h2
   exact⟨v,fun w=>by simpa[execOp,resolve,invoke,builtin] using k1 w,k2⟩
  ·rename_i x ty e1 e2
   have ea:args=#[x]:=by rw[<-Array.toArray_toList (xs:=args),e1]
   have et:argTypes=#[ty]:=by rw[<-Array.toArray_toList (xs:=argTypes),e2]
   subst ea et
   have h2:=(b7f (tt:=type) h (hargs x (by simp))).vals
   obtain⟨v,k1,k2⟩:=h2
   exact⟨v,fun w=>by simpa[execOp,resolve,invoke,builtin] using k1 w,k2⟩
  ·rename_i tys x e1
   have ea:args=#[x]:=by rw[<-Array.toArray_toList (xs:=args),e1]
   subst ea
   have hx:=hargs x (by simp)
   split at h<;>try cases h
   ·rename_i G e off n s ex
    rw[ex] at hx
    cases hb:Nat.ble 1 n with
    |false=>rw[hb] at h;cases h
    |true=>
     rw[hb,cond_true] at h
     cases h
     have hn:=Nat.le_of_ble_eq_true hb
     generalize hxv:ρ x=xv at hx
     cases hx with
     |sl hq hc hs=>
      rename_i q n0 cap
      have hne:¬(cap=0):=by omega
      refine⟨.pointer (some ⟨q,off,none⟩),fun w=>?_,.ptr hq⟩
      simp[execOp,resolve,invoke,builtin,hxv,a9Y hne]
   ·rename_i ex
    rw[ex] at hx
    generalize hxv:ρ x=xv at hx
    cases hx
    refine⟨.pointer none,fun w=>?_,.lit _⟩
    simp[execOp,resolve,invoke,builtin,hxv,a6r]
  iterate 2
   ·rename_i tys x y e1
    have ea:args=#[x,y]:=by rw[<-Array.toArray_toList (xs:=args),e1]
    subst ea
    obtain⟨v,k1,k2⟩:=(b3V h (hargs x (by simp)) (hargs y (by simp))).vals
    exact⟨v,fun w=>by simpa[execOp,resolve,invoke,builtin] using k1 w,k2⟩
end
end Go.Proofs.YtlimlmjljjmcpaaGreatDoor.Ax
namespace Go.Proofs.YtlimlmjljjmcpaaGreatDoor.Ax
open Go.RowKit
set_option linter.unusedVariables false
set_option linter.unusedSimpArgs false
theorem a8t{β:Type}:∀(l:List RV) (k:List RV->β),(∀r∈l,∀s,r ≠ .lit (.string s))->a4Q l k=k l
 |[],k,_=>rfl
 |r::l,k,h=>by
  have ih:=fun k'=>a8t (β:=β) l k' fun r hr=>h r (List.mem_cons_of_mem _ hr)
  cases r with
  |lit v=>
   rw[a4Q,a3u,ih]
   have:ofV v=.lit v:=by
    cases v with
    |string s=>exact absurd rfl (h _ List.mem_cons_self s)
    |_=>rfl
   rw[this]
  |_=>rw[a4Q,ih];intro v hv;cases hv
def a0R(l:List Nat):List Value:=l.map fun n=>.int .u8 (Int.ofNat n)
theorem b3a(g:Gm)(env:Nat->Value)(l:List Nat):RL g env (l.map fun n=>.lit (.int .u8 (.ofNat n))) (a0R l):=
 ⟨by simp[a0R],fun i h1 h2=>by
  simp only[a0R,List.getElem_map]
  exact .lit _⟩
theorem a9U{l:List Nat}(h:∀x∈l,x<256):((r_ l).data.map fun b=>Value.int .u8 b.toNat)=(a0R l).toArray:=by
 unfold r_ a0R
 apply Array.ext'
 simp only[Array.toList_map,List.map_map,Function.comp_def]
 apply List.map_congr_left
 intro x hx
 have:=h x hx
 simp only[UInt8.toNat_ofNat',Value.int.injEq,true_and]
 rw[Nat.mod_eq_of_lt (by omega)]
 rfl
theorem a5E(f:Nat->Value):(Array.range 0).map f=#[]:=Array.eq_empty_of_size_eq_zero (by simp)
theorem a8u(off:Nat):∀(ys:List (Value × Nat)) (a:Array Value),(ys.foldl (fun cs (c,j)=>cs.setIfInBounds (off+j) c) a).size=a.size
 |[],a=>rfl
 |y::ys,a=>by rw[List.foldl_cons,a8u off ys];simp
theorem b0M(place:Nat->Option (Nat × Nat)):∀(l:List (Nat × Value)) (a b:Array Value),Instr.fill place a l=some b->b.size=a.size
 |[],a,b,hab=>by cases hab;rfl
 |(i,v)::l,a,b,hab=>by
  unfold Instr.fill at hab
  split at hab<;>try cases hab
  split at hab<;>try cases hab
  rw[b0M place l _ _ hab,<-Array.foldl_toList,a8u]
section
variable {P:Program} {c:Cx} {g:Gm} {h:Hp} {nx nx':Nat} {w w':World} {t:Tr RV} {ρ:Operand->Value}
def a4d(P:Program)(c c':Cx)(g:Gm)(m:Sem Next)(w:World)(r:RV)(h':Hp)(nx':Nat):Prop:=
 ∃g' v w',m.run P w=.ok (.value v) w'/\R g' c.env r v/\Ext g g'/\RW c' g' h' nx' w'
theorem Does.next{c':Cx}{m:Sem Value}{r:RV}{h':Hp}(hd:Does P c c' g m w r h' nx'):a4d P c c' g (do pure (Next.value (<-m))) w r h' nx':=by
 obtain⟨g',v,w',h1,h2⟩:=hd
 exact⟨g',v,w',by rw[Sem.run_bind,h1];rfl,h2⟩
theorem b8D.c1s{m:Sem Next}{r:RV}(h1:b8D P g c.env m r)(hw:RW c g h nx w):a4d P c c g m w r h nx:=by
 obtain⟨v,h1,h2⟩:=h1
 exact⟨g,v,w,h1 w,h2,Ext.refl g,hw⟩
theorem b4f{e:TypeId}{n:Nat}{cs:List RV}(hz:b4Q P e n=some cs):∃i z,P.info? e=some i/\i.zero=some z/\n*i.size<=10000/\cs=(a4j z.cells (n*i.size)).toList.map ofV:=by
 unfold b4Q at hz
 split at hz<;>try cases hz
 rename_i i hi
 split at hz<;>try cases hz
 rename_i z hzz
 cases hb:Nat.ble (n*i.size) 10000 with
 |false=>rw[hb] at hz;cases hz
 |true=>
  rw[hb,cond_true] at hz
  cases hz
  exact⟨i,z,hi,hzz,Nat.le_of_ble_eq_true hb,rfl⟩
theorem a7M{o:Oper}{r:RV}{ob:OB}{G:Nat}{F':Nat->Option (Nat->Option (Nat × Nat))}(ha:a5B P t G o=some (r,ob))(hρ:∀x∈o.op.operands,R g c.env (p_ t x) (ρ x))(hw:RW c g h nx w)(hG:∀e,g G e=none)(hres:∀x f,F' x=some f->c.F x=some f/\x ≠ G)(hnx:nx<=nx')(hGn:G<nx') :
  a4d P c {c with F:=F'} g (execOp ρ o) w r (h.set G ob) nx':=by
 obtain⟨dst,op,type,pos,after,guard⟩:=o
 unfold a5B at ha
 simp only at ha hρ
 split at ha<;>try cases ha
 ·split at ha<;>try cases ha
  rename_i l hl
  exact(b4C hl hw hG hres hnx hGn).next
 ·split at ha<;>try cases ha
  rename_i l hl
  exact(b4r hl (hρ _ (by simp[Op.operands])) hw hG hres hnx hGn).next
 ·rename_i ty len parts
  split at ha<;>try cases ha
  rename_i e ht
  split at ha<;>try cases ha
  rename_i i cs0 hi hz0
  obtain⟨i',z,hi',hz,hmax,rfl⟩:=b4f hz0
  rw[hi] at hi'
  cases hi'
  obtain⟨cs',arr',h1,e1,e2⟩:=b2x (ρ:=ρ) _ parts.toList _ (a4j z.cells (len*i.size)) _ _ (RL.lits _) (fun p hp=>hρ p.2 (by simp only[Op.operands,List.mem_toArray,List.mem_map];exact⟨p,hp,rfl⟩)) ha
  have hlen:cs'.length=arr'.size:=by have:=e2.len;simpa using this
  have hrun:((execOp ρ ⟨dst,.buildSlice ty len parts,type,pos,after,guard⟩).run P w)=.ok (.value (.slice (some ⟨w.heap.size,0,none⟩) len len)) (w.alloc (.cells arr' e)):=by
   have hparts:(parts.map fun(i,x)=>(i,ρ x)).toList=parts.toList.map fun p=>(p.1,ρ p.2):=by simp
   unfold a4j at e1
   simp only[execOp,Instr.buildSlice,hparts]
   have hm':¬(16777216<len*i.size):=by omega
   by_cases h0:len*i.size=0
   ·have e1':Instr.fill (fun k=>some (k*i.size,i.size)) #[] (parts.toList.map fun p=>(p.1,ρ p.2))=some arr':=by
     rw[h0,a5E] at e1
     exact e1
    simp only[Nat.mul_eq_zero] at h0
    simp[run_underlying ht,sizeOf,typeInfo,hi,newRow]
    rcases h0 with h0|h0
    ·simp[h0,e1',a5E]
    ·simp only[h0,Nat.mul_zero] at e1' |-
     simp[e1',a5E]
   ·have h0':¬(len=0\/i.size=0):=fun hh=>h0 (Nat.mul_eq_zero.2 hh)
    simp[run_underlying ht,zeroValue,sizeOf,typeInfo,hi,hz,hm',h0',e1,newRow]
    exact fun hh=>absurd hh h0
  have hal:=hw.alloc (elem:=e) hG hres hnx hGn (Nat.le_of_eq hlen) fun j k1 k2=>by
   have:=e2.at_ j k1 (by simpa using k2)
   rw[Array.getElem_toList] at this
   exact this
  cases hb:Nat.beq (len*i.size) 0 with
  |true=>
   rw[hb,cond_true] at h1
   cases hb2:Nat.beq len 0 with
   |false=>rw[hb2] at h1;cases h1
   |true=>
    rw[hb2,cond_true] at h1
    cases h1
    have:=Nat.eq_of_beq_eq_true hb2
    subst this
    exact⟨_,_,_,hrun,.s0 a0b,a0I (hG 0),hal⟩
  |false=>
   rw[hb,cond_false] at h1
   cases h1
   have harr:arr'.size=len*i.size:=by
    rw[b0M _ _ _ _ e1]
    simp[a4j]
   refine⟨_,_,_,hrun,.sl (n:=arr'.size) a0b (Nat.le_refl _) (by omega),a0I (hG 0),hal⟩
end
end Go.Proofs.YtlimlmjljjmcpaaGreatDoor.Ax
namespace Go.Proofs.YtlimlmjljjmcpaaGreatDoor.Ax
open Go.RowKit
set_option linter.unusedVariables false
set_option linter.unusedSimpArgs false
theorem b5B{P:Program}{fits:TypeId->Bool}:∀ {d:Nat} {e:TypeId} {c c' off n:Nat},c<=c'->rowAt P fits d e c off n=true->rowAt P fits d e c' off n=true
 |0,e,c,c',off,n,_,h=>by cases h
 |d+1,e,c,c',off,n,hc,h=>by
  unfold rowAt at h |-
  dsimp only at h |-
  split at h
  ·cases h
  ·rename_i hs
   rw[if_neg hs]
   rw[Bool.or_eq_true] at h |-
   rcases h with h|h
   ·left
    simp only[Bool.and_eq_true,decide_eq_true_eq] at h |-
    exact⟨⟨h.1.1,by omega⟩,h.2⟩
   ·right
    rw[Bool.and_eq_true] at h |-
    refine⟨?_,h.2⟩
    simp only[decide_eq_true_eq] at h |-
    omega
theorem a7w{P:Program}:∀ {d:Nat} {e:TypeId} {c c' off:Nat} {u:TypeId} {n:Nat},c<=c'->liesAt P d e c off u n=true->liesAt P d e c' off u n=true
 |0,e,c,c',off,u,n,_,h=>by cases h
 |d+1,e,c,c',off,u,n,hc,h=>by
  unfold liesAt at h |-
  rw[Bool.or_eq_true] at h |-
  rcases h with h|h
  ·exact .inl (b5B hc h)
  ·right
   split at h
   ·exact a7w hc h
   ·cases h
theorem a9S{β:Type}:∀ {l:List RV} {k:List Nat->Option β} {y:β},b6w l k=some y -> ∃b,k b=some y/\l=b.map (fun n=>.lit (.int .u8 (.ofNat n))) /\ ∀x∈b,x<256
 |[],k,y,h=>⟨[],h,rfl,fun x hx=>by cases hx⟩
 |r::l,k,y,h=>by
  unfold b6w at h
  split at h<;>try cases h
  ·rename_i e
   cases e
  ·rename_i n l' e
   cases e
   cases hb:Nat.ble (n+1) 256 with
   |false=>rw[hb] at h;cases h
   |true=>
    rw[hb,cond_true] at h
    obtain⟨b,h1,h2,h3⟩:=a9S h
    refine⟨n::b,h1,by rw[h2];rfl,fun x hx=>?_⟩
    rcases List.mem_cons.1 hx with rfl|hx
    ·exact Nat.le_of_ble_eq_true hb
    ·exact h3 x hx
theorem a8L{g:Gm}{env:Nat->Value}:∀ {b:List Nat} {vs:List Value},RL g env (b.map fun n=>.lit (.int .u8 (.ofNat n))) vs->vs=a0R b
 |[],vs,h=>List.eq_nil_of_length_eq_zero (by rw[<-h.len];rfl)
 |n::b,[],h=>by have:=h.len;simp at this
 |n::b,v::vs,h=>by
  obtain⟨h1,h2⟩:=h.tail
  cases h1
  rw[a8L h2]
  rfl
section
variable {P:Program} {c:Cx} {g:Gm} {h:Hp} {nx nx':Nat} {w w':World} {t:Tr RV} {ρ:Operand->Value}
theorem Lies.shape{env:Nat->Value}{q n:Nat}{elem:TypeId}{z:Bool}{cs:List RV}(hl:Lies g env w q n elem z cs):w.shape? q=some (elem,n):=by
 obtain⟨arr,fz,h1,_,h0,_⟩:=hl
 simp[World.shape?,h1,h0]
theorem b3v{src dst:TypeId}{r r':RV}{v:Value}(hf:b2r P h src dst r=some r')(hr:R g c.env r v)(hw:RW c g h nx w):Does P c c g (convert src dst v) w r' h nx:=by
 unfold b2r at hf
 split at hf<;>try cases hf
 ·rename_i el G e off hs hd
  split at hf<;>try cases hf
  rename_i i el' z nxe cs hi hc
  split at hf<;>try cases hf
  rename_i r0 hn
  rw[a6E] at hn
  have hlt:=(List.getElem?_eq_some_iff.1 hn).1
  cases hb:Nat.ble 1 i.size with
  |false=>rw[hb] at hf;cases hf
  |true=>
   rw[hb,cond_true] at hf
   cases hf
   have h1:=Nat.le_of_ble_eq_true hb
   cases hr with
   |ptr hq=>
    rename_i q n
    have hl:=(hw.at_ hc hq).2.1
    have hle:cs.length<=n:=by obtain⟨_,_,_,_,_,h2,_⟩:=hl;exact h2
    exact⟨g,_,w,Lib.run_to_unsafe w ⟨q,off,none⟩ hs hd hi (by omega) hl.shape (by show off<n;omega),.ptr hq,Ext.refl g,hw⟩
 ·rename_i u G e off hs hd
  split at hf<;>try cases hf
  rename_i i el z nxe cs hi hc
  cases hb:liesAt P P.depth el (cs.length / P.cellsOf el) off u 1 with
  |false=>rw[hb] at hf;cases hf
  |true=>
   rw[hb,cond_true] at hf
   cases hf
   cases hr with
   |ptr hq=>
    rename_i q n
    have hl:=(hw.at_ hc hq).2.1
    have hle:cs.length<=n:=by obtain⟨_,_,_,_,_,h2,_⟩:=hl;exact h2
    exact⟨g,_,w,Lib.run_from_unsafe w ⟨q,off,none⟩ hs hd hi hl.shape (a7w (Nat.div_le_div_right hle) hb),.ptr hq,Ext.refl g,hw⟩
 iterate 2
  ·rename_i hs hd
   cases hr
   refine⟨g,.pointer none,w,?_,.lit _,Ext.refl g,hw⟩
   simp[convert,run_underlying hs,run_underlying hd,Conv.unsafePointer]
theorem a9r(a b:ByteArray):(a==b)=true↔a=b:=by
 obtain⟨x⟩:=a
 obtain⟨y⟩:=b
 constructor
 ·intro h
  have e:x=y:=by simpa using(show(x==y)=true from h)
  rw[e]
 ·intro h
  cases h
  show(x==x)=true
  simp
theorem b8j{l m:List Nat}(h1:∀x∈l,x<256)(h2:∀x∈m,x<256):(r_ l==r_ m)=a3C l m:=by
 rw[Bool.eq_iff_iff,a9r,a2M]
 constructor
 ·intro e2
  refine a3b h1 h2 ?_
  have:=congrArg ByteArray.toList e2
  rw[a0J,a0J] at this
  exact this
 ·intro e
  rw[e]
theorem a3N{env:Nat->Value}{d:TypeDesc}{x k:RV}{u v:Value}{q:Bool}(hk:b0A x k=some q)(hd:a2T d x=true)(hx:R g env x u)(hv:R g env k v):Instr.sameNow d u v=some q:=by
 unfold b0A at hk
 split at hk<;>try cases hk
 ·cases hx with
  |str h1=>
   cases hv with
   |str h2=>
    cases d<;>try cases hd
    simp only[Instr.sameNow,b8j h1 h2]
 ·rename_i j a k b
  cases hx
  cases hv
  cases d<;>try cases hd
  split at hk<;>cases hk
  rename_i e
  subst e
  have e4:Nat.beq a b=decide (a=b):=by
   rw[Bool.eq_iff_iff,Nat.beq_eq,decide_eq_true_iff]
  rw[e4]
  simp[Instr.sameNow]
  by_cases hab:a=b
  ·simp[hab]
  ·rw[decide_eq_false hab]
   exact beq_eq_false_iff_ne.2 fun hh=>hab (by have:=hh;omega)
 ·cases hx
  cases hv
  cases d<;>try cases hd
  simp[Instr.sameNow]
def ES(g:Gm)(env:Nat->Value)(es:List (RV × RV × Nat))(l:List MapEntry):Prop:=
 es.length=l.length /\ ∀j (h1:j<es.length) (h2:j<l.length),R g env es[j].1 l[j].key/\R g env es[j].2.1 l[j].val/\l[j].born=es[j].2.2
theorem ES.tail{env:Nat->Value}{x:RV × RV × Nat}{es:List (RV × RV × Nat)}{y:MapEntry}{l:List MapEntry}(hh:ES g env (x::es) (y::l)):(R g env x.1 y.key/\R g env x.2.1 y.val/\y.born=x.2.2)/\ES g env es l:=
 ⟨hh.2 0 (by simp) (by simp),by have:=hh.1;simpa using this,fun j h1 h2=>hh.2 (j+1) (by simpa using h1) (by simpa using h2)⟩
theorem b0W{env:Nat->Value}{d:TypeDesc}{x:RV}{u:Value}(hd:a2T d x=true)(hx:R g env x u):∀ {es:List (RV × RV × Nat)} {l:List MapEntry} {r:Option RV} (i:Nat),b6k es x=some r->ES g env es l->(r=none/\Instr.findNow d u l i=some none) \/ ∃r' j v,r=some r'/\Instr.findNow d u l i=some (some (j,v))/\R g env r' v
 |[],l,r,i,hf,hl=>by
  cases hf
  have:l=[]:=List.eq_nil_of_length_eq_zero (by rw[<-hl.1];rfl)
  subst this
  exact .inl ⟨rfl,rfl⟩
 |(k,v,b)::es,[],r,i,hf,hl=>by have:=hl.1;simp at this
 |(k,v,b)::es,y::l,r,i,hf,hl=>by
  obtain⟨⟨h1,h2,h3⟩,h4⟩:=hl.tail
  unfold b6k at hf
  split at hf<;>try cases hf
  ·rename_i hk
   have:=a3N hk hd hx h1
   exact .inr ⟨v,i,y.val,rfl,by simp[Instr.findNow,this],h2⟩
  ·rename_i hk
   have:=a3N hk hd hx h1
   rcases b0W hd hx (i+1) hf h4 with⟨a,e⟩|⟨r',j,v',a,e,f⟩
   ·exact .inl ⟨a,by simp[Instr.findNow,this,e]⟩
   ·exact .inr ⟨r',j,v',a,by simp[Instr.findNow,this,e],f⟩
theorem run_checkKey{kt:TypeId}{d:TypeDesc}{x:RV}{u:Value}{env:Nat->Value}(hu:P.underlying kt=some d)(hd:a2T d x=true)(hx:R g env x u)(b:Bool)(w:World):(Instr.checkKey b 10000 kt u).run P w=.ok () w:=by
 have:∀n,(Instr.checkKey b (n+1) kt u).run P w=.ok () w:=fun n=>by
  unfold Instr.checkKey
  rw[Sem.run_bind,run_underlying hu w]
  cases d<;>(try cases hd)<;>rfl
 exact this 9999
theorem b7x{et:TypeId}{z:RV}(hz:b8E P et=some z):∃v,(∀w,(zeroValue et).run P w=.ok v w)/\z=ofV v:=by
 unfold b8E at hz
 split at hz<;>try cases hz
 rename_i i hi
 split at hz<;>try cases hz
 rename_i v hv
 rw[a3u] at hz
 cases hz
 exact⟨v,fun w=>by simp[zeroValue,typeInfo,hi,hv],rfl⟩
theorem b3H{ty:TypeId}{m k r:RV}{ok:Bool}{vm vk:Value}(hf:b2k P h ty m k ok=some r)(hm:R g c.env m vm)(hk:R g c.env k vk)(hw:RW c g h nx w):Does P c c g (Instr.lookup ty vm vk ok) w r h nx:=by
 unfold b2k at hf
 split at hf<;>try cases hf
 rename_i kt et hu
 split at hf<;>try cases hf
 rename_i d z hd hz
 obtain⟨zv,hzr,rfl⟩:=b7x hz
 cases hfk:a2T d k with
 |false=>rw[hfk] at hf;cases hf
 |true=>
  rw[hfk,cond_true] at hf
  have hck:=fun b w=>run_checkKey (P:=P) hd hfk hk b w
  split at hf<;>try cases hf
  rename_i es hes
  split at hf<;>try cases hf
  rename_i r' hfe
  have fk:∀(l:List MapEntry),ES g c.env es l->(r'=none/\(Instr.findKey kt vk l).run P w=.ok none w) \/ ∃r'' j v,r'=some r''/\(Instr.findKey kt vk l).run P w=.ok (some (j,v)) w/\R g c.env r'' v:=fun l hl=>by
   rcases b0W hfk hk 0 hfe hl with⟨e,h3⟩|⟨r'',j,v,e,h3,h4⟩
   ·exact .inl ⟨e,by simp[Instr.findKey,run_underlying hd,h3]⟩
   ·exact .inr ⟨r'',j,v,e,by simp[Instr.findKey,run_underlying hd,h3],h4⟩
  have two:∀ {x y:RV} {u v:Value},R g c.env x u->R g c.env y v->R g c.env (.tup [x,y]) (.tuple #[u,v]):=fun a b=>.tup rfl fun i k1 k2=>by
   rcases i with _|_|i
   ·exact a
   ·exact b
   ·simp at k1
    omega
  unfold b3M at hes
  split at hes<;>try cases hes
  ·rename_i G
   split at hes<;>try cases hes
   rename_i ck hg
   obtain⟨_,q,arr,h1,h2,h3,h4,h5⟩:=hw.ok G _ hg
   cases hm with
   |mp hq=>
    rename_i q' n'
    rw[h1] at hq
    cases hq
    rcases fk arr.toList ⟨by simpa using h4.symm,fun j a b=>by simpa using h5 j a (by simpa using b)⟩ with⟨rfl,hf⟩|⟨r'',j,v,rfl,hf,hv⟩<;>cases ok
    ·exact⟨g,zv,w,by simp[Instr.lookup,run_underlying hu,getObj,Sem.run,h3,hck,hf,hzr],a4A _ _ _,Ext.refl g,hw⟩
    ·exact⟨g,.tuple #[zv,.bool false],w,by simp[Instr.lookup,run_underlying hu,getObj,Sem.run,h3,hck,hf,hzr],two (a4A _ _ _) (.lit _),Ext.refl g,hw⟩
    ·exact⟨g,v,w,by simp[Instr.lookup,run_underlying hu,getObj,Sem.run,h3,hck,hf,hzr],hv,Ext.refl g,hw⟩
    ·exact⟨g,.tuple #[v,.bool true],w,by simp[Instr.lookup,run_underlying hu,getObj,Sem.run,h3,hck,hf,hzr],two hv (.lit _),Ext.refl g,hw⟩
  ·cases hm
   rcases fk [] ⟨rfl,fun j a=>absurd a (by simp)⟩ with⟨rfl,hf⟩|⟨r'',j,v,rfl,hf,hv⟩<;>cases ok
   ·exact⟨g,zv,w,by simp[Instr.lookup,run_underlying hu,hck,hf,hzr],a4A _ _ _,Ext.refl g,hw⟩
   ·exact⟨g,.tuple #[zv,.bool false],w,by simp[Instr.lookup,run_underlying hu,hck,hf,hzr],two (a4A _ _ _) (.lit _),Ext.refl g,hw⟩
   ·exact⟨g,v,w,by simp[Instr.lookup,run_underlying hu,hck,hf,hzr],hv,Ext.refl g,hw⟩
   ·exact⟨g,.tuple #[v,.bool true],w,by simp[Instr.lookup,run_underlying hu,hck,hf,hzr],two hv (.lit _),Ext.refl g,hw⟩
theorem a8A{o:Oper}{r:RV}(ha:a8Y P t h o=some r)(hρ:∀x∈o.op.operands,R g c.env (p_ t x) (ρ x))(hw:RW c g h nx w):a4d P c c g (execOp ρ o) w r h nx:=by
 obtain⟨dst,op,type,pos,after,guard⟩:=o
 unfold a8Y at ha
 simp only at ha hρ
 split at ha<;>try cases ha
 ·exact(b7J ha (hρ _ (by simp[Op.operands])) hw).next
 ·rename_i src dst' x
  exact(b3v ha (hρ x (by simp[Op.operands])) hw).next
 ·rename_i ty m k ok
  exact(b3H ha (hρ m (by simp[Op.operands])) (hρ k (by simp[Op.operands])) hw).next
end
end Go.Proofs.YtlimlmjljjmcpaaGreatDoor.Ax
namespace Go.Proofs.YtlimlmjljjmcpaaGreatDoor.Ax
open Go.RowKit
set_option linter.unusedVariables false
set_option linter.unusedSimpArgs false
section
variable {P:Program} {c:Cx} {g:Gm} {h:Hp} {nx nx':Nat} {w w':World} {t:Tr RV} {ρ:Operand->Value}
def b0B(P:Program)(c:Cx)(g:Gm)(m:Sem Next)(w:World)(r:RV)(h':Hp)(nx':Nat):Prop:=
 ∃g' v w',(m.run P w=.ok (.value v) w'\/(m.run P w=.ok .skip w'/\v=undef))/\R g' c.env r v/\Ext g g'/\RW c g' h' nx' w'
theorem a4d.step{m:Sem Next}{r:RV}{h':Hp}(hd:a4d P c c g m w r h' nx'):b0B P c g m w r h' nx':=by
 obtain⟨g',v,w',h1,h2⟩:=hd
 exact⟨g',v,w',.inl h1,h2⟩
theorem RW.setObj(hw:RW c g h nx w){G q n:Nat}{ob ob':OB}{o:Obj}(hget:h.get G=some ob)(hl:a4t ob 0)(hq:g G 0=some (q,n))(hl':∀e,a4t ob' e->e=0)(hok:∀w',w'.heap[q]? = some o->OK c g w' G ob') :
  RW c g (h.set G ob') nx {w with heap:=w.heap.setIfInBounds q o}:=by
 have hlive:Live h G 0:=⟨ob,hget,hl⟩
 obtain⟨hK,hqlt⟩:=hw.a1r hlive hq
 have hoth:∀k,k ≠ q->({w with heap:=w.heap.setIfInBounds q o}:World).heap[k]? = w.heap[k]? := fun k hk=>Array.getElem?_setIfInBounds_ne (fun e=>hk e.symm)
 refine hw.upd (F':=c.F) ⟨rfl,rfl,rfl,by simp⟩ (fun k o' hk=>hoth k fun e=>by rw[e,hK] at hk;cases hk) (fun G' e' k m hne hl2 hk=>hoth k fun ee=>?_) (Ext.refl g) (fun _ _ _=>rfl) (hw.a6s hlive) (Nat.le_refl _) (hw.b6m hq) (hok _ ?_) ?_
 ·subst ee
  exact hne (hw.sep _ _ _ _ _ _ _ hl2 hlive hk hq)
 ·show(w.heap.setIfInBounds q o)[q]? = some o
  rw[Array.getElem?_setIfInBounds_self]
  simp[hqlt]
 ·intro e q' n' he hq' G' e' n'' hne hl2 hq''
  have:=hl' e he
  subst this
  rw[hq] at hq'
  cases hq'
  exact hne (hw.sep _ _ _ _ _ _ _ hl2 hlive hq'' hq)
theorem b5P{env:Nat->Value}{x k:RV}{u v:Value}(hk:b0A x k=some true)(hx:R g env x u)(hv:R g env k v)(n:Nat):Instr.sameBits n v u=true:=by
 unfold b0A at hk
 split at hk<;>try cases hk
 ·rename_i l m
  cases hx with
  |str h1=>
   cases hv with
   |str h2=>
    have:l=m:=a2M.1 (Option.some.inj hk)
    subst this
    cases n<;>simp[Instr.sameBits,a9r]
 ·rename_i j a k b
  cases hx
  cases hv
  split at hk
  ·rename_i e
   have e2:=Option.some.inj hk
   subst e
   have:=Nat.eq_of_beq_eq_true e2
   subst this
   cases n<;>simp[Instr.sameBits]
  ·cases hk
 ·rename_i a b
  cases hx
  cases hv
  have e:(a==b)=true:=Option.some.inj hk
  have:=eq_of_beq e
  subst this
  cases n<;>simp[Instr.sameBits]
theorem b3D{β:Type}{env:Nat->Value}{d:TypeDesc}{x v:RV}{u:Value}{ck:Nat}(hd:a2T d x=true)(hx:R g env x u):∀ {es:List (RV × RV × Nat)} {l:List MapEntry} {f:List (RV × RV × Nat)->Bool->Option β} {y:β} (i:Nat),c0p es x v ck f=some y->ES g env es l ->
  (∃es',f es' true=some y/\Instr.findNow d u l i=some none/\es'=es++[(x,v,ck)]) \/ ∃es' j val e0,f es' false=some y/\Instr.findNow d u l i=some (some (i+j,val))/\l[j]? = some e0/\(∀n,Instr.sameBits n e0.key u=true) /\ ∀vv,R g env v vv->ES g env es' (l.modify j fun e=>{e with key:=u,val:=vv})
 |[],l,f,y,i,hf,hl=>by
  have:l=[]:=List.eq_nil_of_length_eq_zero (by rw[<-hl.1];rfl)
  subst this
  exact .inl ⟨_,hf,rfl,rfl⟩
 |(k,v0,b)::es,[],f,y,i,hf,hl=>by have:=hl.1;simp at this
 |(k,v0,b)::es,e0::l,f,y,i,hf,hl=>by
  obtain⟨⟨h1,h2,h3⟩,h4⟩:=hl.tail
  unfold c0p at hf
  split at hf<;>try cases hf
  ·rename_i hk
   have:=a3N hk hd hx h1
   refine .inr ⟨_,0,e0.val,e0,hf,by simp[Instr.findNow,this],rfl,b5P hk hx h1,fun vv hvv=>⟨by simpa using hl.1,fun j k1 k2=>?_⟩⟩
   rcases j with _|j
   ·exact⟨hx,hvv,h3⟩
   ·simp only[List.modify_zero_cons,List.getElem_cons_succ]
    exact h4.2 j (by simpa using k1) (by simpa using k2)
  ·rename_i hk
   have:=a3N hk hd hx h1
   rcases b3D hd hx (i+1) hf h4 with⟨es',a1,a2,a3⟩|⟨es',j,val,e1,a1,a2,a3,a4,a5⟩
   ·exact .inl ⟨_,a1,by simp[Instr.findNow,this,a2],by rw[a3];rfl⟩
   ·refine .inr ⟨_,j+1,val,e1,a1,by simp only[Instr.findNow,this,a2];congr 3;omega,a3,a4,fun vv hvv=>?_⟩
    have a6:=a5 vv hvv
    refine⟨by have:=a6.1;simp at this |-;omega,fun j' k1 k2=>?_⟩
    rcases j' with _|j'
    ·exact⟨h1,h2,h3⟩
    ·simp only[List.modify_succ_cons,List.getElem_cons_succ]
     exact a6.2 j' (by simpa using k1) (by simpa using k2)
theorem b3j{ty:TypeId}{m k v:RV}{h':Hp}{vm vk vv:Value}(hf:b1L P h ty m k v=some h')(hm:R g c.env m vm)(hk:R g c.env k vk)(hv:R g c.env v vv)(hw:RW c g h nx w):∃w',(Instr.mapUpdate ty vm vk vv).run P w=.ok () w'/\RW c g h' nx w':=by
 unfold b1L at hf
 split at hf<;>try cases hf
 rename_i kt et G hu
 split at hf<;>try cases hf
 rename_i d es ck hd hg
 cases hb:a2T d k&&b7b v with
 |false=>rw[hb] at hf;cases hf
 |true=>
  rw[hb,cond_true] at hf
  rw[Bool.and_eq_true] at hb
  obtain⟨hfk,_⟩:=hb
  obtain⟨h0,q,arr,h1,h2,h3,h4,h5⟩:=hw.ok G _ hg
  cases hm with
  |mp hq=>
  rename_i q' n'
  rw[h1] at hq
  cases hq
  have hck:=fun b w=>run_checkKey (P:=P) hd hfk hk b w
  have hES:ES g c.env es arr.toList:=⟨by simpa using h4.symm,fun j a b=>by simpa using h5 j a (by simpa using b)⟩
  have mk:∀ {es':List (RV × RV × Nat)} {arr':Array MapEntry} {ck':Nat},ES g c.env es' arr'.toList->RW c g (h.set G (.mp es' ck')) nx {w with heap:=w.heap.setIfInBounds q (.map arr' ck')}:=fun hE=>
   hw.setObj hg rfl h1 (fun e he=>he) fun w' hq'=>⟨h0,q,_,h1,h2,hq',by have:=hE.1;simp at this;omega,fun j a b=>hE.2 j a (by simpa using b)⟩
  rcases b3D hfk hk 0 hf hES with⟨es',a1,a2,rfl⟩|⟨es',j,val,e0,a1,a2,a3,a4,a5⟩
  ·rw[J_,a0U] at a1
   cases a1
   refine⟨{w with heap:=w.heap.setIfInBounds q (.map (arr.push {key:=vk,val:=vv,born:=ck}) (ck+1))},?_,mk ?_⟩
   ·simp[Instr.mapUpdate,run_underlying hu,getObj,setObj,Sem.run,h3,hck,Instr.findKey,run_underlying hd,a2]
   ·refine⟨by have:=hES.1;simp at this |-;omega,fun j k1 k2=>?_⟩
    simp only[Array.toList_push]
    rcases Nat.lt_or_ge j es.length with hj|hj
    ·have hj2:j<arr.toList.length:=by rw[<-hES.1];exact hj
     rw[List.getElem_append_left hj,List.getElem_append_left hj2]
     exact hES.2 j hj hj2
    ·have hj3:j=es.length:=by simp at k1;omega
     have hj4:arr.toList.length<=j:=by rw[<-hES.1];omega
     have e1:(es++[(k,v,ck)])[j]'k1=(k,v,ck):=by
      rw[List.getElem_append_right hj]
      simp[hj3]
     have k3:j<(arr.toList++[{key:=vk,val:=vv,born:=ck:MapEntry}]).length:=by simpa using k2
     have e2:(arr.toList++[{key:=vk,val:=vv,born:=ck:MapEntry}])[j]'k3 = {key:=vk,val:=vv,born:=ck}:=by
      rw[List.getElem_append_right hj4]
      simp
     rw[e1,e2]
     exact⟨hk,hv,rfl⟩
  ·rw[a0U] at a1
   cases a1
   have hjl:j<arr.size:=by
    have:=(List.getElem?_eq_some_iff.1 a3).1
    simpa using this
   have hkey:arr[j]=e0:=by
    have:=(List.getElem?_eq_some_iff.1 a3).2
    simpa using this
   refine⟨{w with heap:=w.heap.setIfInBounds q (.map (arr.modify j fun e=>{e with key:=vk,val:=vv}) ck)},?_,mk ?_⟩
   ·simp only[Nat.zero_add] at a2
    have hks:(Instr.keyThatStays (((arr[j]?).map (·.key)).getD vk) vk).run P w=.ok vk w:=by
     rw[Array.getElem?_eq_getElem hjl,hkey]
     simp[Instr.keyThatStays,a4]
    simp only[Array.getElem?_eq_getElem hjl,hkey,Option.map_some,Option.getD_some] at hks
    simp[Instr.mapUpdate,run_underlying hu,getObj,setObj,Sem.run,h3,hck,Instr.findKey,run_underlying hd,a2,hjl,hkey,hks]
   ·have:=a5 vv hv
    rw[Array.toList_modify]
    exact this
end
end Go.Proofs.YtlimlmjljjmcpaaGreatDoor.Ax
namespace Go.Proofs.YtlimlmjljjmcpaaGreatDoor.Ax
open Go.RowKit
set_option linter.unusedVariables false
set_option linter.unusedSimpArgs false
section
variable {P:Program} {c:Cx} {g:Gm} {h:Hp} {nx nx':Nat} {w w':World} {t:Tr RV} {ρ:Operand->Value}
theorem a2a{l:List Nat}(hl:∀x∈l,x<256){k:Nat}(hk:k<=l.length)(w:World):(Builtin.firstCells 1 k (.string (r_ l))).run P w=.ok (a0R (l.take k)).toArray w:=by
 have e1:(r_ l).extract 0 k=r_ (l.take k):=by
  unfold r_
  rw[ByteArray.extract_mk,List.drop_zero,Nat.sub_zero,List.map_take]
 have:=a9U (l:=l.take k) fun x hx=>hl x (List.mem_of_mem_take hx)
 simp only[Builtin.firstCells,e1,this]
 rfl
theorem b2P{β:Type}{sz:Nat}{x:RV}{u:Value}{tx:TypeId}{k:Nat->List RV->Option β}{y:β}(hf:c0r h sz x k=some y)(hx:R g c.env x u)(hw:RW c g h nx w)(hk:a4O P tx=true) :
  ∃m cells,k m cells=some y /\ ∃news,RL g c.env cells news/\Src P sz tx u m news w /\ ∀j,j<=m->(Builtin.firstCells sz j u).run P w=.ok (news.take (j*sz)).toArray w:=by
 have hkind:(∃e',P.underlying tx=some (.slice e'))\/P.underlying tx=some .string:=by
  unfold a4O at hk
  split at hk
  ·rename_i e he
   exact .inl ⟨e,he⟩
  ·rename_i he
   exact .inr he
  ·cases hk
 have hnil:∀ {a:Option Addr} {cap:Nat},Src P sz tx (.slice a 0 cap) 0 [] w /\ ∀j,j<=0->(Builtin.firstCells sz j (.slice a 0 cap)).run P w=.ok (([]:List Value).take (j*sz)).toArray w:=fun {a cap}=>by
  have h0:∀w:World,(Builtin.firstCells sz 0 (.slice a 0 cap)).run P w=.ok ([]:List Value).toArray w:=fun w=>by
   cases a<;>simp[Builtin.firstCells,loadCells,loadCellsFrom]
  exact⟨⟨hkind,fun _=>rfl,h0 w,h0 w.drew,by simp,fun _ hh=>by cases hh⟩,fun j hj=>by
   have:j=0:=by omega
   subst this
   simpa using h0 w⟩
 unfold c0r at hf
 split at hf<;>try cases hf
 ·rename_i G e off m s
  cases hb:Nat.beq s sz with
  |false=>rw[hb] at hf;cases hf
  |true=>
   rw[hb,cond_true] at hf
   have hs:=Nat.eq_of_beq_eq_true hb
   subst hs
   split at hf<;>try cases hf
   rename_i el z nxe cs hc
   rw[a6L] at hf
   obtain⟨h1,h2⟩:=a1t hf
   cases hone:((cs.drop off).take (m*s)).all b7b with
   |false=>rw[hone] at h2;cases h2
   |true=>
    rw[hone,cond_true] at h2
    cases hx with
    |sl hq hcap hn=>
     rename_i q n cap
     have hl:=(hw.at_ hc hq).2.1
     rw[List.length_drop] at h1
     by_cases h0:off<=cs.length
     ·obtain⟨news,hrange,hlen,hrl⟩:=hl.range (off:=off) (n:=m*s) (by omega)
      have hcells:∀j u,news[j]? = some u->w.cell? ((⟨q,off,none⟩:Addr).add j)=some u:=fun j u hj=>by
       rw[a2r]
       exact hrange j u hj
      refine⟨m,_,h2,news,hrl,⟨hkind,fun _=>rfl,run_firstCells_some w s m ⟨q,off,none⟩ m cap news hlen hcells,run_firstCells_some w.drew s m ⟨q,off,none⟩ m cap news hlen (by simpa using hcells),hlen,fun y hy=>?_⟩,fun j hj=>?_⟩
      ·obtain⟨k',hk',rfl⟩:=List.getElem_of_mem hy
       exact b9w (List.all_eq_true.1 hone _ (List.getElem_mem (by rw[hrl.len];exact hk'))) (hrl.at_ k' (by rw[hrl.len];exact hk') hk')
      ·refine run_firstCells_some w s j ⟨q,off,none⟩ m cap (news.take (j*s)) ?_ fun i v hi=>hcells i v ?_
       ·rw[List.length_take,hlen]
        have:=Nat.mul_le_mul_right s hj
        omega
       ·rw[List.getElem?_take] at hi
        split at hi
        ·exact hi
        ·cases hi
     ·have hm0:m*s=0:=by omega
      have hz:(cs.drop off).take (m*s)=[]:=by rw[hm0];rfl
      rw[hz] at h2
      have hlc:∀(w:World) (j:Nat),j<=m->(Builtin.firstCells s j (.slice (some ⟨q,off,none⟩) m cap)).run P w=.ok ([]:List Value).toArray w:=fun w j hj=>by
       have:j*s=0:=by
        have:=Nat.mul_le_mul_right s hj
        omega
       simp[Builtin.firstCells,this,loadCells,loadCellsFrom]
      exact⟨m,_,h2,[],.nil,⟨hkind,fun _=>rfl,hlc w m (Nat.le_refl _),hlc w.drew m (Nat.le_refl _),by simp[hm0],fun _ hh=>by cases hh⟩,fun j hj=>by simpa using hlc w j hj⟩
 ·rename_i l
  cases hb:Nat.beq sz 1 with
  |false=>rw[hb] at hf;cases hf
  |true=>
   rw[hb,cond_true] at hf
   have hs:=Nat.eq_of_beq_eq_true hb
   subst hs
   rw[a8t _ _ (fun r hr s=>by
    obtain⟨n,_,rfl⟩:=List.mem_map.1 hr
    simp)] at hf
   cases hx with
   |str hl=>
    refine⟨l.length,_,hf,a0R l,b3a _ _ _,⟨hkind,fun _=>?_,?_,?_,by simp[a0R],fun y hy=>?_⟩,fun j hj=>?_⟩
    ·simp[Builtin.lenOf,a1h]
    ·have:=a2a (P:=P) hl (Nat.le_refl _) w
     rwa [List.take_length] at this
    ·have:=a2a (P:=P) hl (Nat.le_refl _) w.drew
     rwa [List.take_length] at this
    ·obtain⟨n,_,rfl⟩:=List.mem_map.1 hy
     rfl
    ·rw[a2a hl hj,Nat.mul_one]
     simp[a0R,List.map_take]
 ·cases hx with
  |s0 hq=>exact⟨0,[],hf,[],.nil,hnil⟩
 ·cases hx with
  |se a cap=>exact⟨0,[],hf,[],.nil,hnil⟩
 ·cases hx
  exact⟨0,[],hf,[],.nil,hnil⟩
theorem a7Z{t tx ty e:TypeId}{i:TypeInfo}(ht:P.underlying t=some (.slice e))(hi:P.info? e=some i)(base:Option Addr)(sLen sCap:Nat)(x:Value)(hs:Src P i.size tx x 0 [] w)(hle:sLen<=sCap) :
  (Builtin.append_ #[t,tx] ty #[.slice base sLen sCap,x]).run P w=.ok (.slice base sLen sCap) w:=by
 rcases hs.kind with⟨e',hk⟩|hk<;>cases base<;>simp[Builtin.append_,run_underlying ht,run_underlying hk,sizeOf,typeInfo,hi,hs.len,hle,hs.cells,storeCells]
theorem b2C{ty tx tt:TypeId}{r x r':RV}{h':Hp}{v u:Value}(hf:b2f P h nx ty tx r x=some (r',h',nx'))(hr:R g c.env r v)(hx:R g c.env x u)(hw:RW c g h nx w):Does P c c g (Builtin.append_ #[ty,tx] tt #[v,u]) w r' h' nx':=by
 unfold b2f at hf
 split at hf<;>try cases hf
 rename_i e ht
 split at hf<;>try cases hf
 rename_i i hi
 split at hf<;>try cases hf
 rename_i z hz
 cases hb:Nat.beq z.cells.size i.size&&Nat.ble 1 i.size&&isSlice r&&a4O P tx with
 |false=>rw[hb] at hf;cases hf
 |true=>
 rw[hb,cond_true] at hf
 rw[Bool.and_eq_true,Bool.and_eq_true,Bool.and_eq_true] at hb
 have hzs:=Nat.eq_of_beq_eq_true hb.1.1.1
 have hsz:=Nat.le_of_ble_eq_true hb.1.1.2
 obtain⟨m,cells,hf2,news,hrl,hsrc,_⟩:=b2P hf hx hw hb.2
 replace hf:=hf2
 clear hf2
 have hnl:news.length=m*i.size:=hsrc.newsLen
 cases hm0:Nat.beq m 0 with
 |true=>
  rw[hm0,cond_true] at hf
  cases hf
  have:=Nat.eq_of_beq_eq_true hm0
  subst this
  have hn0:news=[]:=List.eq_nil_of_length_eq_zero (by rw[hnl];simp)
  subst hn0
  have hv:∃base sLen sCap,v=.slice base sLen sCap/\sLen<=sCap:=by
   have hs:=hb.1.2
   unfold isSlice at hs
   split at hs
   ·cases hr with
    |sl hq hc hn=>exact⟨_,_,_,rfl,hc⟩
   ·cases hr with
    |s0 hq=>exact⟨_,_,_,rfl,Nat.le_refl _⟩
   ·cases hr with
    |se a cap=>exact⟨_,_,_,rfl,Nat.zero_le _⟩
   ·cases hr
    exact⟨_,_,_,rfl,Nat.le_refl _⟩
   ·cases hs
  obtain⟨base,sLen,sCap,rfl,hle⟩:=hv
  exact⟨g,_,w,a7Z ht hi base sLen sCap u hsrc hle,hr,Ext.refl g,hw⟩
 |false=>
 rw[hm0,cond_false] at hf
 have hmpos:0<m:=by
  rcases Nat.eq_zero_or_pos m with hh|hh
  ·subst hh;cases hm0
  ·exact hh
 have fresh:∀(base:Option Addr),v=.slice base 0 0->(bif Nat.ble (m*i.bytes) 1000000000&&Nat.ble m 1000000000 then X_ m fun len=>X_ (nx+1) fun nx'=>a5b h nx (.cells e false 1 [(0,cells)]) fun h'=>some (RV.sl nx 0 0 len i.size,h',nx') else none)=some (r',h',nx')->Does P c c g (Builtin.append_ #[ty,tx] tt #[v,u]) w r' h' nx':=fun base hv hf=>by
  subst hv
  cases hbb:Nat.ble (m*i.bytes) 1000000000&&Nat.ble m 1000000000 with
  |false=>rw[hbb] at hf;cases hf
  |true=>
   rw[hbb,cond_true,J_,J_,a0U] at hf
   cases hf
   rw[Bool.and_eq_true] at hbb
   have b1:=Nat.le_of_ble_eq_true hbb.1
   have b2:=Nat.le_of_ble_eq_true hbb.2
   have hold:(Builtin.firstCells i.size 0 (.slice base 0 0)).run P w.drew=.ok ([]:List Value).toArray w.drew:=by
    cases base<;>simp[Builtin.firstCells,loadCells,loadCellsFrom]
   have hrun:=run_append_grow_src (P:=P) w ty tx tt e i z ht hi hz base 0 0 [] hold u m news hsrc (by omega) (by omega) (growslice_fits (by omega) (by simp only[Nat.zero_add];omega))
   simp only[Nat.zero_add,List.nil_append] at hrun
   have hge:=grownCap_ge w m 0 e
   have hfull:(news.toArray++Builtin.zeroCells z.cells (grownCap w m 0 e - m)).size=grownCap w m 0 e*i.size:=by
    simp only[Array.size_append,List.size_toArray,size_zeroCells,hzs,hnl,<-Nat.add_mul]
    congr 1
    omega
   exact⟨_,_,_,hrun,.sl a0b hge (by omega),a0I (hw.free nx 0 (Nat.le_refl _)),hw.made hrl (Builtin.zeroCells z.cells (grownCap w m 0 e - m)) (by simp)⟩
 split at hf<;>try cases hf
 ·rename_i G mb n s
  cases hbb:Nat.beq s i.size&&Nat.ble ((n+m)*i.bytes) 1000000000&&Nat.ble (n+m) 1000000000 with
  |false=>rw[hbb] at hf;cases hf
  |true=>
  rw[hbb,cond_true] at hf
  rw[Bool.and_eq_true,Bool.and_eq_true] at hbb
  have hs:=Nat.eq_of_beq_eq_true hbb.1.1
  have b1:=Nat.le_of_ble_eq_true hbb.1.2
  have b2:=Nat.le_of_ble_eq_true hbb.2
  subst hs
  split at hf<;>try cases hf
  rename_i el nxe mem hget
  cases hel:Nat.beq el e with
  |false=>rw[hel] at hf;cases hf
  |true=>
  rw[hel,cond_true] at hf
  have:=Nat.eq_of_beq_eq_true hel
  subst this
  split at hf<;>try cases hf
  rename_i cs hfind
  obtain⟨hk,hf2⟩:=a1t hf
  replace hf:=hf2
  clear hf2
  rw[a4Y] at hf
  obtain⟨rk,hf2,hkeep⟩:=a5F (n*i.size) mem 3 fun r'=>X_ (nxe+1) fun nxe'=>X_ (n+m) fun len=>a5b h G (.cells el false nxe' ((nxe,cs.take (n*i.size)++cells)::r')) fun h'=>some (RV.sl G nxe 0 len i.size,h',nx)
  rw[hf2,J_,J_,a0U] at hf
  cases hf
  cases hr with
  |sl hq hc hn=>
  rename_i q nq cap
  have hm:=a2E hfind
  have hok:=hw.ok G _ hget
  obtain⟨q',n',hq',hK,hlies⟩:=hok.2 mb cs hm
  rw[hq] at hq'
  cases hq'
  have hnone:g G nxe=none:=hok.1 nxe (Nat.le_refl _)
  have hlies2:=hlies
  obtain⟨arr,fz,a1,af,a0,a2,a3⟩:=hlies2
  have hfz:=af.1 rfl
  subst hfz
  by_cases hroom:n+m<=cap
  ·have hmul:(n+m)*i.size<=cap*i.size:=Nat.mul_le_mul_right _ hroom
   rw[Nat.add_mul] at hmul
   have hfit:n*i.size+news.length<=arr.size:=by omega
   have hcell:∀j,j<news.length->(w.cell? ⟨q,0+n*i.size+j,none⟩).isSome=true:=fun j hj=>by
    have:n*i.size+j<arr.size:=by omega
    simp[World.cell?,a1,this]
   have hfrz:∀j,j<news.length->w.frozen? ⟨q,0+n*i.size+j,none⟩=false:=fun j hj=>by simp[World.frozen?,a1]
   have hrun:=run_append_room_src (P:=P) w ty tx tt el i ht hi q 0 n cap u m news hsrc hroom hcell hfrz
   rw[Nat.zero_add] at hrun
   have hset:=a2c w q news (n*i.size) arr el (0,0) a1 hfit
   exact⟨_,_,_,hrun,.sl a0b hroom hn,a0I hnone,hw.room hget hm hq a1 hk hrl hfit hkeep ⟨hset.2.2.1,hset.2.2.2.1,hset.2.2.2.2.1,hset.2.2.2.2.2⟩ hset.2.1 hset.1⟩
  ·obtain⟨olds,hor,hol,holds⟩:=hlies.range (off:=0) (n:=n*i.size) (by omega)
   have hold:(Builtin.firstCells i.size n (.slice (some ⟨q,0,none⟩) n cap)).run P w.drew=.ok olds.toArray w.drew:=
    run_firstCells_some w.drew i.size n ⟨q,0,none⟩ n cap olds hol fun j v hj=>by
     rw[a2r]
     have:=hor j v hj
     simpa using this
   have hrun:=run_append_grow_src (P:=P) w ty tx tt el i z ht hi hz (some ⟨q,0,none⟩) n cap olds hold u m news hsrc (by omega) (by omega) (growslice_fits (by omega) (by omega))
   have hge:=grownCap_ge w (n+m) cap el
   have hfull:((olds++news).toArray++Builtin.zeroCells z.cells (grownCap w (n+m) cap el - (n+m))).size=grownCap w (n+m) cap el*i.size:=by
    simp only[Array.size_append,List.size_toArray,List.length_append,size_zeroCells,hzs,hol,hnl,<-Nat.add_mul]
    congr 1
    omega
   rw[List.drop_zero] at holds
   exact⟨_,_,_,hrun,.sl a0b hge (by omega),a0I hnone,hw.moved hget hq (holds.append hrl) (Builtin.zeroCells z.cells (grownCap w (n+m) cap el - (n+m))) (by simp) ⟨_,hget,cs,hm⟩ hkeep⟩
 ·rename_i lv
  have hs:=hb.1.2
  have:lv=.slice none 0 0:=by
   unfold isSlice at hs
   split at hs<;>rename_i e0<;>first|cases e0|skip
   ·rfl
   ·cases hs
  cases hr
  exact fresh none this hf
 ·cases hr with
  |s0 hq=>exact fresh _ rfl hf
end
end Go.Proofs.YtlimlmjljjmcpaaGreatDoor.Ax
namespace Go.Proofs.YtlimlmjljjmcpaaGreatDoor.Ax
open Go.RowKit
set_option linter.unusedVariables false
set_option linter.unusedSimpArgs false
section
variable {P:Program} {c:Cx} {g:Gm} {h:Hp} {nx nx':Nat} {w w':World} {t:Tr RV} {ρ:Operand->Value}
theorem RW.over(hw:RW c g h nx w){G e q n nxe off:Nat}{elem:TypeId}{z:Bool}{cs l:List RV}{vs:List Value}(hc:a1P h G e=some (elem,z,nxe,cs))(hq:g G e=some (q,n))(hfit:off+l.length<=cs.length)(hl:RL g c.env l vs) :
  RW c g (h.set G (.cells elem z nxe [(e,cs.take off++l++cs.drop (off+l.length))])) nx (w.setCells q off vs):=by
 obtain⟨hK,hlies,hlive,hnx,helt⟩:=hw.at_ hc hq
 obtain⟨arr,fz,a1,af,a0,a2,a3⟩:=hlies
 have hlen:vs.length=l.length:=hl.len.symm
 have hset:=a2c w q vs off arr elem fz a1 (by omega)
 refine hw.setRow hc hq a1 ⟨hset.2.2.1,hset.2.2.2.1,hset.2.2.2.2.1,hset.2.2.2.2.2⟩ hset.2.1 hset.1 (by simp;omega) (by simp;omega) ?_
 have hcs:RL g c.env cs (arr.toList.take cs.length):=⟨by simp;omega,fun j k1 k2=>by
  rw[List.getElem_take]
  have hja:j<arr.size:=by omega
  simpa using a3 j k1 hja⟩
 have hall:=((hcs.take off).append hl).append (hcs.drop (off+l.length))
 intro j k1 k2
 have hj2:j<(List.take off (List.take cs.length arr.toList)++vs++List.drop (off+l.length) (List.take cs.length arr.toList)).length:=by rw[<-hall.len];exact k1
 have:=hall.at_ j k1 hj2
 have e:(List.take off arr.toList++vs++List.drop (off+vs.length) arr.toList).toArray[j]=(List.take off (List.take cs.length arr.toList)++vs++List.drop (off+l.length) (List.take cs.length arr.toList))[j]:=by
  have e1:List.take off (List.take cs.length arr.toList)=List.take off arr.toList:=by
   rw[List.take_take,Nat.min_eq_left (by omega)]
  have e2:List.drop (off+l.length) (List.take cs.length arr.toList)=List.take (cs.length - (off+l.length)) (List.drop (off+l.length) arr.toList):=List.drop_take ..
  rw[List.getElem_toArray]
  apply Option.some.inj
  rw[<-List.getElem?_eq_getElem,<-List.getElem?_eq_getElem,e1,e2,hlen]
  rcases Nat.lt_or_ge j (List.take off arr.toList++vs).length with hlt|hge
  ·rw[List.getElem?_append_left hlt,List.getElem?_append_left hlt]
  ·rw[List.getElem?_append_right hge,List.getElem?_append_right hge,List.getElem?_take,if_pos]
   have e3:(List.take off arr.toList++vs).length=off+l.length:=by
    rw[List.length_append,List.length_take,Array.length_toList,hlen];omega
   rw[e3] at hge |-
   have:j<cs.length:=by
    have:=k1
    simp only[List.length_append,List.length_take,List.length_drop] at this
    omega
   omega
 rw[e]
 exact this
theorem a8y{G e q n nxe off:Nat}{elem:TypeId}{z:Bool}{cs l:List RV}{vs:List Value}(hw:RW c g h nx w)(hc:a1P h G e=some (elem,z,nxe,cs))(hq:g G e=some (q,n))(hfit:off+l.length<=cs.length)(hl:RL g c.env l vs)(h1:∀y∈vs,y.oneCell'=true) :
  (storeCells ⟨q,off,none⟩ vs).run P w=.ok () (w.setCells q off vs):=by
 obtain⟨hK,hlies,_⟩:=hw.at_ hc hq
 have hlen:vs.length=l.length:=hl.len.symm
 have hst:=run_storeCells_cells (P:=P) q off vs 0 w (fun j hj=>by
   obtain⟨y,hy,_,_⟩:=hlies.cell (j:=off+j) (by omega)
   rw[Nat.add_zero,hy];rfl) (fun j hj=>by
   obtain⟨y,_,_,hy⟩:=hlies.cell (j:=off+j) (by omega)
   rw[Nat.add_zero];exact hy) h1
 rw[Nat.add_zero] at hst
 exact hst
theorem b8m{ty tt:TypeId}{ats:Array TypeId}{r x r':RV}{h':Hp}{v u:Value}(hat:ats[0]? = some ty)(hf:b8W P h ty r x=some (r',h'))(hr:R g c.env r v)(hx:R g c.env x u)(hw:RW c g h nx w):Does P c c g (Builtin.copy_ ats tt #[v,u]) w r' h' nx:=by
 unfold b8W at hf
 split at hf<;>try cases hf
 rename_i e ht
 split at hf<;>try cases hf
 rename_i i hi
 have hkind:a4O P ty=true:=by simp[a4O,ht]
 split at hf
 ·rename_i G mb off n s
  cases hb:Nat.beq s i.size&&Nat.ble 1 s with
  |false=>rw[hb] at hf;cases hf
  |true=>
  rw[hb,cond_true] at hf
  rw[Bool.and_eq_true] at hb
  have hs:=Nat.eq_of_beq_eq_true hb.1
  subst hs
  obtain⟨m,cells,hf2,news,hrl,hsrc,hpre⟩:=b2P hf hx hw hkind
  replace hf:=hf2
  clear hf2
  rw[J_] at hf
  cases hr with
  |sl hq hcap hn=>
  rename_i q nq cap
  have hnl:news.length=m*i.size:=hsrc.newsLen
  have hrun:∀ {w1:World},(storeCells ⟨q,off,none⟩ (news.take (min m n*i.size))).run P w=.ok () w1->(Builtin.copy_ ats tt #[.slice (some ⟨q,off,none⟩) n cap,u]).run P w=.ok (goInt ((min m n:Nat):Int)) w1:=fun hst=>by
   have hp:=hpre (min m n) (Nat.min_le_left _ _)
   have hmin:Nat.min m n=min m n:=rfl
   simp[Builtin.copy_,hat,run_underlying ht,hsrc.len,sizeOf,typeInfo,hi,hmin,hp,hst]
  cases hk:Nat.beq (min m n) 0 with
  |true=>
   rw[hk,cond_true] at hf
   cases hf
   have hk0:=Nat.eq_of_beq_eq_true hk
   refine⟨g,_,w,hrun (w1:=w) ?_,?_,Ext.refl g,hw⟩
   ·rw[hk0,Nat.zero_mul]
    rfl
   ·rw[hk0]
    exact .lit _
  |false=>
   rw[hk,cond_false] at hf
   obtain⟨h1,hf2⟩:=a1t hf
   replace hf:=hf2
   clear hf2
   split at hf<;>try cases hf
   rename_i el z nxe cs hc
   obtain⟨h2,h3⟩:=a3S hf
   rw[a0U] at h3
   cases h3
   have hrl2:=hrl.take (min m n*i.size)
   refine⟨g,_,_,hrun (a8y hw hc hq h2 hrl2 fun y hy=>hsrc.one y (List.mem_of_mem_take hy)),.lit _,Ext.refl g,hw.over hc hq h2 hrl2⟩
 ·rename_i hne
  cases hb:a8S r&&(isSlice x || isStr x) with
  |false=>rw[hb] at hf;cases hf
  |true=>
  rw[hb,cond_true] at hf
  cases hf
  rw[Bool.and_eq_true] at hb
  have hlen:∃m,(Builtin.lenOf u).run P w=.ok m w:=by
   have hs:=hb.2
   rw[Bool.or_eq_true] at hs
   rcases hs with hs|hs
   ·unfold isSlice at hs
    split at hs<;>try cases hs
    all_goals(cases hx;exact⟨_,rfl⟩)
   ·unfold isStr at hs
    split at hs<;>try cases hs
    cases hx
    exact⟨_,rfl⟩
  obtain⟨m,hm⟩:=hlen
  have hmin:Nat.min m 0=0:=Nat.min_zero _
  have hfc:(Builtin.firstCells i.size 0 u).run P w=.ok #[] w:=by
   have hs:=hb.2
   rw[Bool.or_eq_true] at hs
   rcases hs with hs|hs
   ·unfold isSlice at hs
    split at hs<;>try cases hs
    all_goals(cases hx;simp[Builtin.firstCells,loadCells,loadCellsFrom])
   ·obtain⟨l0,rfl⟩:∃l0,x=.str l0:=by cases x<;>first|exact⟨_,rfl⟩|cases hs
    cases hx with
    |str hl=>
     have e1:(r_ l0).extract 0 0=r_ ([]:List Nat):=by
      unfold r_
      rw[ByteArray.extract_mk]
      rfl
     simp[Builtin.firstCells,e1,r_]
  have hb1:=hb.1
  unfold a8S at hb1
  split at hb1<;>try cases hb1
  ·cases hr with
   |s0 hq=>
    refine⟨g,goInt 0,w,?_,.lit _,Ext.refl g,hw⟩
    simp[Builtin.copy_,hat,run_underlying ht,hm,sizeOf,typeInfo,hi,hmin,hfc,storeCells]
  ·cases hr with
   |se a cap=>
    refine⟨g,goInt 0,w,?_,.lit _,Ext.refl g,hw⟩
    simp[Builtin.copy_,hat,run_underlying ht,hm,sizeOf,typeInfo,hi,hmin,hfc,storeCells]
  ·cases hr
   refine⟨g,goInt 0,w,?_,.lit _,Ext.refl g,hw⟩
   simp[Builtin.copy_,hat,run_underlying ht,hm,sizeOf,typeInfo,hi,hmin,hfc,storeCells]
theorem RW.newObj(hw:RW c g h nx w){ob:OB}{o:Obj}(hl':∀e,a4t ob e->e=0)(hok:∀(w':World) (g':Gm),w'.heap[w.heap.size]? = some o->g' nx 0=some (w.heap.size,0)->(∀e,1<=e->g' nx e=none)->c.K w.heap.size=none->Ext g g'->OK c g' w' nx ob) :
  RW c (a5R g nx 0 (w.heap.size,0)) (h.set nx ob) (nx+1) (w.alloc o):=by
 have hG:∀e,g nx e=none:=fun e=>hw.free nx e (Nat.le_refl _)
 have hold:∀q,q<w.heap.size->(w.alloc o).heap[q]? = w.heap[q]? := fun q hq=>Below.heap_alloc w _ q hq
 have hext:=a0I (g:=g) (e:=0) (x:=(w.heap.size,0)) (hG 0)
 refine hw.upd (F':=c.F) (G:=nx) ⟨rfl,rfl,rfl,by simp⟩ (fun q o hq=>hold q ?_) (fun G' e' q n hne hl hq=>hold q (hw.a1r hl hq).2) hext (fun G' e' hne=>a8q hne) (fun x f hx=>⟨hx,?_⟩) (Nat.le_succ _) (Nat.lt_succ_self _) ?_ ?_
 ·exact(Array.getElem?_eq_some_iff.1 (hw.keep q o hq)).1
 ·have:=(hw.res x f hx).1
  omega
 ·refine hok _ _ (heap_alloc_new w _) a0b (fun e he=>by rw[a6P (by omega)];exact hG e) ?_ hext
  cases hk:c.K w.heap.size with
  |none=>rfl
  |some o=>exact absurd (Array.getElem?_eq_some_iff.1 (hw.keep _ o hk)).1 (by omega)
 ·intro e q n he hq G' e' n' hne hl hq'
  have:=hl' e he
  subst this
  rw[a0b] at hq
  cases hq
  have:=(hw.a1r hl hq').2
  omega
theorem b1q{ty:TypeId}(hw:RW c g h nx w):Does P c c g (Instr.makeMap ty none) w (.mp nx) (h.set nx (.mp [] 0)) (nx+1):=by
 refine⟨_,.map (some w.heap.size),_,?_,.mp a0b,a0I (hw.free nx 0 (Nat.le_refl _)),hw.newObj (o:=.map #[] 0) (fun e he=>he) fun w' g' h1 h2 h3 h4 h5=>⟨h3,w.heap.size,#[],h2,h4,h1,rfl,fun j a=>absurd a (by simp)⟩⟩
 simp[Instr.makeMap,Go.newObj,Sem.run]
end
end Go.Proofs.YtlimlmjljjmcpaaGreatDoor.Ax
namespace Go.Proofs.YtlimlmjljjmcpaaGreatDoor.Ax
open Go.RowKit
set_option linter.unusedVariables false
set_option linter.unusedSimpArgs false
theorem b0a(fn:Func)(h:fn.name = "internal/abi.NoEscape"):Extern.find fn=some Extern.AbiNoEscape.same:=by
 have h1:Extern.allGenericRows.lookup "internal/abi.NoEscape" = none:=by kernel_rfl
 have h2:Extern.allTypedRows.lookup "internal/abi.NoEscape" = none:=by kernel_rfl
 have h3:Extern.allRows.lookup "internal/abi.NoEscape" = some Extern.AbiNoEscape.same:=by kernel_rfl
 unfold Extern.find
 simp only[h,h1,h2,h3]
 rfl
section
variable {P:Program} {c:Cx} {g:Gm} {h h':Hp} {nx nx':Nat} {w w':World} {t:Tr RV} {ρ:Operand->Value} {call:Q_}
def b4d(P:Program)(f:FuncId):Prop:=∃fn code,P.funcs[f]? = some fn /\ ¬(fn.name == "runtime.NumGoroutine")=true/\fn.body=some code
def b9b(c:Cx)(g:Gm)(h':Hp)(nx':Nat)(K:Ending->World->Prop):RE->Prop
 |.ret r=>∀g' v w',R g' c.env r v->Ext g g'->RW c g' h' nx' w'->K (.returned v) w'
 |.pan r=>∀g' v w',R g' c.env r v->Ext g g'->RW c g' h' nx' w'->K (.panicked [{v,recovered:=false}]) w'
def Wd(ro:Option Nat):Fence:={fn:=fun _=>True,depth:=none,alive:=false,round:=ro}
theorem a9c{ro:Option Nat}{n:Nat}{f:FuncId}{args:Array Value}{w:World}{R:Ending->World->Prop}:CallsIn (Wd ro) n P f args w R↔Calls P f args w R:=callsIn_wide
def c0P(P:Program)(call:Q_):Prop:=∀f args h nx re h' nx',call (.fn f) args h nx=some (re,h',nx')->b4d P f /\ ∀(c:Cx) (g:Gm) (w:World) (vs:List Value),RL g c.env args vs->RW c g h nx w -> ∀K,b9b c g h' nx' K re->Calls P f vs.toArray w K
def c0L(P:Program)(call:Q_):Prop:=∀G args h nx re h' nx',call (.yld G) args h nx=some (re,h',nx') -> ∀(c:Cx) (g:Gm) (w:World) (vs:List Value),RL g c.env args vs->RW c g h nx w -> ∀K,b9b c g h' nx' K re -> ∀q n,g G 0=some (q,n) -> ∃r:Loop,w.heap[q]? = some (.loop r)/\vs.toArray.size=r.params.size /\
 RoundIn (Wd none) 0 P q r.fn ((r.params.zip vs.toArray).foldl (fun tmps (t,a)=>tmps.setIfInBounds t a) r.tmps) r.assign r.body w K
def a0c(P:Program)(call:Q_):Prop:=c0P P call/\c0L P call
theorem b4d.enter{f:FuncId}(hr:b4d P f)(args:Array Value)(w:World):(callFunc f args).run P w=.ok (.enter f args) w:=by
 obtain⟨fn,code,h1,h2,h3⟩:=hr
 have h2':fn.name ≠ "runtime.NumGoroutine" := by simpa using h2
 simp[callFunc,h1,h2',h3]
theorem b2d{o:Oper}{fx:Operand}{args:Array Operand}{ats:Array TypeId}{f:FuncId}{ags:List RV}(ho:o.op=.call ⟨.value fx,args,ats⟩)(ha:a4S (p_ t fx) (args.toList.map (p_ t))=some (f,ags))(hρ:∀x∈o.op.operands,R g c.env (p_ t x) (ρ x)) :
  ∃vs:List Value,RL g c.env ags vs/\execOp ρ o=callFunc f vs.toArray:=by
 have hf:=hρ fx (by simp[ho,Op.operands,Call.operands])
 have hargs:RL g c.env (args.toList.map (p_ t)) (args.toList.map ρ):=RL.map fun x hx=>hρ x (by simp[ho,Op.operands,Call.operands];exact .inr (by simpa using hx))
 obtain⟨dst,op,type,pos,after,guard⟩:=o
 simp only at ho
 subst ho
 revert ha
 generalize p_ t fx=rf at hf
 intro ha
 generalize hv:ρ fx=v at hf
 unfold a4S at ha
 split at ha<;>try cases ha
 ·rename_i f' first captured
  split at ha<;>try cases ha
  rename_i e1 e2
  have ef:first=#[]:=by rw[<-Array.toArray_toList (xs:=first),e1]
  have ec:captured=#[]:=by rw[<-Array.toArray_toList (xs:=captured),e2]
  subst ef ec
  cases hf
  refine⟨_,hargs,?_⟩
  have e:(args.map ρ)=(args.toList.map ρ).toArray:=by apply Array.ext';simp
  rw[<-e]
  have:execOp ρ ⟨dst,.call ⟨.value fx,args,ats⟩,type,pos,after,guard⟩=callFunc f (#[]++args.map ρ ++ #[]):=by
   simp only[execOp,resolve,hv,Deferred.ofValue]
   rfl
  rw[this,Array.empty_append,Array.append_empty]
 ·rename_i f' a l
  rw[a4Y,a4Y] at ha
  cases ha
  cases hf with
  |clo hm hk hn hh=>
   rename_i us vs
   have h1:RL g c.env a us.toList:=⟨by simpa using hm,fun i h1 h2=>by simpa using hk i h1 (by simpa using h2)⟩
   have h2:RL g c.env l vs.toList:=⟨by simpa using hn,fun i h1 h2=>by simpa using hh i h1 (by simpa using h2)⟩
   refine⟨_,h1.append (hargs.append h2),?_⟩
   have:execOp ρ ⟨dst,.call ⟨.value fx,args,ats⟩,type,pos,after,guard⟩=callFunc f (us++args.map ρ++vs):=by
    simp only[execOp,resolve,hv,Deferred.ofValue]
    rfl
   rw[this]
   congr 1
   apply Array.ext'
   simp
theorem b1z{o:Oper}{fx:Operand}{args:Array Operand}{ats:Array TypeId}{f:FuncId}{ags:List RV}(ho:o.op=.defer ⟨.value fx,args,ats⟩)(ha:a4S (p_ t fx) (args.toList.map (p_ t))=some (f,ags))(hρ:∀x∈o.op.operands,R g c.env (p_ t x) (ρ x)) :
  ∃(vs:List Value) (cap dargs:Array Value),RL g c.env ags vs/\(∀P w,(execOp ρ o).run P w=.ok (.defer {target:=.fn (.func f) cap,args:=dargs}) w)/\dargs++cap=vs.toArray:=by
 have hf:=hρ fx (by simp[ho,Op.operands,Call.operands])
 have hargs:RL g c.env (args.toList.map (p_ t)) (args.toList.map ρ):=RL.map fun x hx=>hρ x (by simp[ho,Op.operands,Call.operands];exact .inr (by simpa using hx))
 obtain⟨dst,op,type,pos,after,guard⟩:=o
 simp only at ho
 subst ho
 revert ha
 generalize p_ t fx=rf at hf
 intro ha
 generalize hv:ρ fx=v at hf
 unfold a4S at ha
 split at ha<;>try cases ha
 ·rename_i f' first captured
  split at ha<;>try cases ha
  rename_i e1 e2
  have ef:first=#[]:=by rw[<-Array.toArray_toList (xs:=first),e1]
  have ec:captured=#[]:=by rw[<-Array.toArray_toList (xs:=captured),e2]
  subst ef ec
  cases hf
  refine⟨_,#[],#[]++args.map ρ,hargs,fun P w=>?_,by apply Array.ext';simp⟩
  simp only[execOp,resolve,hv,Deferred.ofValue]
  rfl
 ·rename_i f' a l
  rw[a4Y,a4Y] at ha
  cases ha
  cases hf with
  |clo hm hk hn hh=>
   rename_i us vs
   have h1:RL g c.env a us.toList:=⟨by simpa using hm,fun i h1 h2=>by simpa using hk i h1 (by simpa using h2)⟩
   have h2:RL g c.env l vs.toList:=⟨by simpa using hn,fun i h1 h2=>by simpa using hh i h1 (by simpa using h2)⟩
   refine⟨_,vs,us++args.map ρ,h1.append (hargs.append h2),fun P w=>?_,by apply Array.ext';simp⟩
   simp only[execOp,resolve,hv,Deferred.ofValue]
   rfl
theorem b1s{f:FuncId}{ags:List RV}{r:RV}{vs:List Value}(he:b2g P f ags=some r)(hr:RL g c.env ags vs):∃v,(∀w,(callFunc f vs.toArray).run P w=.ok (.value v) w)/\R g c.env r v:=by
 unfold b2g at he
 split at he<;>try cases he
 rename_i fn hfn
 split at he<;>try cases he
 rename_i hb
 split at he
 ·rename_i us hus
  split at he<;>try cases he
  rename_i v hv
  rw[a3u] at he
  cases he
  have:=b1W hus hr
  subst this
  exact⟨v,a3F hv,a4A _ _ _⟩
 ·split at he<;>try cases he
  rename_i r0
  split at he<;>try cases he
  rename_i hn
  rw[Bool.and_eq_true] at hn
  have hname:fn.name = "internal/abi.NoEscape" := by simpa using hn.1
  have hnext:Extern.findNext fn=none:=by simpa using hn.2
  have hl:=hr.len
  obtain⟨v,rfl⟩:∃v,vs=[v]:=by
   rcases vs with _|⟨v,_|⟨u,vs⟩⟩
   ·simp at hl
   ·exact⟨v,rfl⟩
   ·simp at hl
  refine⟨v,fun w=>?_,hr.tail.1⟩
  rw[run_callFunc_extern hfn (by rw[hname];decide) (by simp[hb]) hnext (b0a fn hname)]
  rfl
theorem a8e(fn:Func)(h:fn.name = "internal/bytealg.MakeNoZero"):Extern.find fn=some (Extern.BytealgMakeNoZero.makeNoZero fn.params fn.resultTypes):=by
 have h1:Extern.allGenericRows.lookup "internal/bytealg.MakeNoZero" = none:=by kernel_rfl
 have h2:Extern.allTypedRows.lookup "internal/bytealg.MakeNoZero" = some Extern.BytealgMakeNoZero.makeNoZero:=by kernel_rfl
 unfold Extern.find
 rw[h]
 simp[h1,h2]
theorem b3y{f:FuncId}{ags:List RV}{re:RE}{vs:List Value}(he:b5i P f ags h nx=some (re,h',nx'))(hr:RL g c.env ags vs)(hw:RW c g h nx w) :
  ∃r g' v w',re=.ret r/\(callFunc f vs.toArray).run P w=.ok (.value v) w'/\R g' c.env r v/\Ext g g'/\RW c g' h' nx' w':=by
 unfold b5i at he
 split at he<;>try cases he
 rename_i fn hfn
 split at he<;>try cases he
 rename_i hb
 split at he<;>try cases he
 rename_i n
 split at he<;>try cases he
 rename_i t ht
 split at he<;>try cases he
 rename_i e hu
 split at he<;>try cases he
 rename_i hn
 rw[Bool.and_eq_true,Bool.and_eq_true] at hn
 have hname:fn.name = "internal/bytealg.MakeNoZero" := by simpa using hn.1.1
 have hnb:=Nat.le_of_ble_eq_true hn.1.2
 have hnext:Extern.findNext fn=none:=by simpa using hn.2
 rw[J_,a0U] at he
 cases he
 have hrt:fn.resultTypes=#[t]:=by rw[<-Array.toArray_toList (xs:=fn.resultTypes),ht]
 have hl:=hr.len
 obtain⟨v,rfl⟩:∃v,vs=[v]:=by
  rcases vs with _|⟨v,_|⟨u,vs⟩⟩
  ·simp at hl
  ·exact⟨v,rfl⟩
  ·simp at hl
 have h1:=hr.tail.1
 cases h1
 obtain⟨cs,k1,k2,_⟩:=Lib.run_makeNoZero (P:=P) w fn.params t e hu n (by omega)
 have hrw:=(hw.drew.drew).alloc (G:=nx) (nx':=nx+1) (F':=c.F) (fun e=>hw.free nx e (Nat.le_refl _)) (fun x f hx=>⟨hx,by have:=(hw.res x f hx).1;omega⟩) (Nat.le_succ _) (Nat.lt_succ_self _) (vs:=cs) (elem:=e) (cs:=[]) (by simp) fun j h1=>absurd h1 (by simp)
 refine⟨_,_,_,_,rfl,?_,.sl a0b k2 (by omega),a0I (hw.free _ _ (Nat.le_refl _)),hrw⟩
 rw[run_callFunc_extern hfn (by rw[hname];decide) (by simp[hb]) hnext (a8e fn hname),hrt]
 show((Sem.run P (Extern.BytealgMakeNoZero.makeNoZero fn.params #[t] #[.int .i64 (n:Int)]) w).andThen fun v w'=>Result.ok (Next.value v) w')=_
 rw[k1]
 rfl
theorem a9Q{ty it tt:TypeId}{r r':RV}{v:Value}{n:Nat}(hf:a5z P h ty r n=some (r',h'))(hr:R g c.env r v)(hw:RW c g h nx w):Does P c c g (Builtin.unsafeString_ #[ty,it] tt #[v,.int .i64 (Int.ofNat n)]) w r' h' nx:=by
 have hemp:R g c.env (.str []) (.string .empty):=R.str (g:=g) (env:=c.env) (l:=[]) (fun x hx=>by cases hx)
 unfold a5z at hf
 split at hf<;>try cases hf
 iterate 2
  ·cases hr
   exact⟨g,_,w,Lib.run_unsafeString_none w ty it tt _,hemp,Ext.refl g,hw⟩
 ·rename_i m G e
  split at hf<;>try cases hf
  rename_i u hu
  split at hf<;>try cases hf
  rename_i el nxe mem hget
  split at hf<;>try cases hf
  rename_i cs hfind
  cases hb:Nat.beq el u&&Nat.beq (P.cellsOf el) 1&&Nat.ble (m+1) 1000000 with
  |false=>rw[hb] at hf;cases hf
  |true=>
  rw[hb,cond_true] at hf
  rw[Bool.and_eq_true,Bool.and_eq_true] at hb
  have e1:=Nat.eq_of_beq_eq_true hb.1.1
  have e2:=Nat.eq_of_beq_eq_true hb.1.2
  have e3:=Nat.le_of_ble_eq_true hb.2
  subst e1
  obtain⟨h1,h2⟩:=a1t hf
  obtain⟨b,h3,h4,h5⟩:=a9S h2
  rw[a0U] at h3
  cases h3
  cases hr with
  |ptr hq=>
  rename_i q nq
  have hok:=hw.ok G _ hget
  obtain⟨q',n',hq',hK,hlies⟩:=hok.2 e cs (a2E hfind)
  rw[hq] at hq'
  cases hq'
  have hlive:Live h G e:=⟨_,hget,cs,a2E hfind⟩
  have hle:cs.length<=nq:=by obtain⟨_,_,_,_,_,h2,_⟩:=hlies;exact h2
  obtain⟨vs,hrange,hlen,hrl⟩:=hlies.range (off:=0) (n:=m+1) (by omega)
  rw[List.drop_zero,h4] at hrl
  have hvs:=a8L hrl
  have hbl:b.length=m+1:=by rw[<-hlen,hvs];simp[a0R]
  have hcell:∀j x,(b.map UInt8.ofNat)[j]? = some x->w.cell? ((⟨q,0,none⟩:Addr).add j)=some (.int .u8 x.toNat):=fun j x hj=>by
   rw[a2r]
   refine hrange j _ ?_
   rw[hvs]
   rw[List.getElem?_map] at hj
   simp only[a0R,List.getElem?_map]
   cases hbj:b[j]? with
   |none=>rw[hbj] at hj;cases hj
   |some y=>
    rw[hbj] at hj
    cases hj
    have hy:=h5 y (List.mem_of_getElem? hbj)
    simp only[Option.map_some,Option.some.injEq,Value.int.injEq,true_and,UInt8.toNat_ofNat']
    rw[Nat.mod_eq_of_lt (by omega)]
    rfl
  have hrun:=Lib.run_unsafeString_row (P:=P) w ty it tt el hu e2 q nq hlies.shape (b.map UInt8.ofNat) (by intro hh;have:=congrArg List.length hh;simp[hbl] at this) (by simp;omega) (by simp;omega) hcell
  have hml:((b.map UInt8.ofNat).length:Int)=Int.ofNat (m+1):=by simp[hbl]
  rw[hml] at hrun
  refine⟨g,_,_,hrun,.str h5,Ext.refl g,?_⟩
  have hoth:∀k,k ≠ q->(w.freeze ⟨q,0,none⟩ (b.map UInt8.ofNat).length).heap[k]? = w.heap[k]? := fun k hk=>by
   unfold World.freeze
   split
   ·rfl
   ·show(w.heap.modify q _)[k]? = _
    rw[Array.getElem?_modify,if_neg (fun e=>hk e.symm)]
  refine hw.upd (F':=c.F) ⟨?_,?_,?_,?_⟩ (fun k o hk=>hoth k fun e=>by rw[e,hK] at hk;cases hk) (fun G' e' k m' hne hl2 hk=>hoth k fun ee=>?_) (Ext.refl g) (fun _ _ _=>rfl) (hw.a6s hlive) (Nat.le_refl _) (hw.b6m hq) ⟨hok.1,fun e' cs' hm=>by cases hm⟩ (fun e' q' n' he=>by obtain⟨_,hm⟩:=he;cases hm)
  iterate 3
   ·unfold World.freeze;split<;>rfl
  ·unfold World.freeze;split<;>simp
  ·subst ee
   exact hne (hw.sep _ _ _ _ _ _ _ hl2 hlive hk hq)
theorem b1a{m:Sem Unit}(hw':∃w',m.run P w=.ok () w'/\RW c g h' nx' w'):b0B P c g (do m;pure Next.skip) w (.lit undef) h' nx':=by
 obtain⟨w',h1,h2⟩:=hw'
 exact⟨g,undef,w',.inr ⟨by rw[Sem.run_bind,h1];rfl,rfl⟩,.lit _,Ext.refl g,h2⟩
theorem a9B{x:Option Hp}{re:RE}(hx:b6x x nx=some (re,h',nx')):x=some h'/\re=.ret (.lit undef)/\nx'=nx:=by
 unfold b6x at hx
 split at hx<;>cases hx
 exact⟨rfl,rfl,rfl⟩
theorem b0B.wp{ro:Option Nat}{o:Oper}{a:Act}{r:RV}{K:Act->World->Prop}{Q:Exit->Act->World->Prop}(hs:b0B P c g (execOp a.eval o) w r h' nx')(hnd:∀cc,o.op ≠ .defer cc)(hK:∀g' v w',R g' c.env r v->Ext g g'->RW c g' h' nx' w'->K (a.put o.dst v) w'):o.wpIn (Wd ro) 0 P a w K Q:=by
 refine⟨fun _ _=>trivial,?_⟩
 show o.uponIn (Wd ro) 0 P a K Q ((o.semAt ro a.eval).run P w)
 rw[Oper.semAt_eq ro a.eval o hnd]
 obtain⟨g',v,w',h1,h2,h3,h4⟩:=hs
 rcases h1 with h1|⟨h1,rfl⟩<;>rw[h1]<;>exact hK g' _ w' h2 h3 h4
theorem b0S{t:Tr RV}{o:Oper}{r:RV}(he:a7V P t o=some r):∀cc,o.op ≠ .defer cc:=fun cc hc=>by
 unfold a7V at he
 rw[hc] at he
 cases he
theorem b1m{t:Tr RV}{h:Hp}{o:Oper}{r:RV}(he:a8Y P t h o=some r):∀cc,o.op ≠ .defer cc:=fun cc hc=>by
 unfold a8Y at he
 rw[hc] at he
 cases he
theorem a8Z{t:Tr RV}{G:Nat}{o:Oper}{x:RV × OB}(he:a5B P t G o=some x):∀cc,o.op ≠ .defer cc:=fun cc hc=>by
 unfold a5B at he
 rw[hc] at he
 cases he
theorem b9x{call:Q_}{o:Oper}{x:RE × Hp × Nat}(he:b5g P call t h nx o=some x):∀cc,o.op ≠ .defer cc:=fun cc hc=>by
 unfold b5g at he
 rw[hc] at he
 cases he
theorem b0x{ro:Option Nat}(hcall:a0c P call){o:Oper}{re:RE}{a:Act}(he:b5g P call t h nx o=some (re,h',nx'))(hρ:∀x∈o.op.operands,R g c.env (p_ t x) (a.eval x))(hw:RW c g h nx w){K:Act->World->Prop}{Q:Exit->Act->World->Prop}(hK:b9b c g h' nx' (fun e w'=>match e with
   |.returned v=>K (a.put o.dst v) w'
   |.panicked ch=>Q (.panic ch) a w'
   |.outgrown=>False) re):o.wpIn (Wd ro) 0 P a w K Q:=by
 have hnd:=b9x he
 have ret:∀ {r:RV},re=.ret r->b0B P c g (execOp a.eval o) w r h' nx'->o.wpIn (Wd ro) 0 P a w K Q:=fun e hs=>by
  subst e
  exact hs.wp hnd fun g' v w' k1 k2 k3=>hK g' v w' k1 k2 k3
 obtain⟨dst,op,type,pos,after,guard⟩:=o
 unfold b5g at he
 simp only at he hρ
 split at he<;>try cases he
 ·rename_i ty x v
  obtain⟨h1,rfl,rfl⟩:=a9B he
  obtain⟨h2,hh,h3⟩:=b5N (k:=some) h1 (hρ x (by simp[Op.operands])) (hρ v (by simp[Op.operands])) hw
  cases hh
  exact ret rfl (b1a h3)
 ·rename_i ty m k v
  obtain⟨h1,rfl,rfl⟩:=a9B he
  exact ret rfl (b1a (b3j h1 (hρ m (by simp[Op.operands])) (hρ k (by simp[Op.operands])) (hρ v (by simp[Op.operands])) hw))
 ·rename_i ty r
  split at he<;>try cases he
  rw[J_,a0U] at he
  cases he
  exact ret rfl ((b1q hw).next.step)
 ·rename_i b args argTypes
  have hargs:∀x∈args,R g c.env (p_ t x) (a.eval x):=fun x hx=>hρ x (by simp[Op.operands,Call.operands,hx])
  split at he<;>try cases he
  ·rename_i r x ty tx e1 e2
   have ea:args=#[r,x]:=by rw[<-Array.toArray_toList (xs:=args),e1]
   have et:argTypes=#[ty,tx]:=by rw[<-Array.toArray_toList (xs:=argTypes),e2]
   subst ea et
   split at he<;>cases he
   rename_i hap
   obtain⟨g',v,w',k1,k2⟩:=(b2C (tt:=type) hap (hargs r (by simp)) (hargs x (by simp)) hw).next
   exact ret rfl (a4d.step ⟨g',v,w',by simpa[execOp,resolve,invoke,builtin] using k1,k2⟩)
  ·rename_i x n ty it e1 e2
   have ea:args=#[x,n]:=by rw[<-Array.toArray_toList (xs:=args),e1]
   have et:argTypes=#[ty,it]:=by rw[<-Array.toArray_toList (xs:=argTypes),e2]
   subst ea et
   split at he<;>try cases he
   rename_i m hn
   split at he<;>cases he
   rename_i hap
   have hn':=hargs n (by simp)
   rw[hn] at hn'
   generalize hnv:a.eval n=nv at hn'
   cases hn'
   obtain⟨g',v,w',k1,k2⟩:=(a9Q (it:=it) (tt:=type) hap (hargs x (by simp)) hw).next
   refine ret rfl (a4d.step ⟨g',v,w',?_,k2⟩)
   simp only[execOp,resolve,List.map_toArray,List.map_cons,List.map_nil,hnv]
   exact k1
  ·rename_i r x ty tys e1 e2
   have ea:args=#[r,x]:=by rw[<-Array.toArray_toList (xs:=args),e1]
   have hat:argTypes[0]? = some ty:=by rw[<-Array.getElem?_toList,e2];rfl
   subst ea
   split at he<;>cases he
   rename_i hap
   obtain⟨g',v,w',k1,k2⟩:=(b8m (tt:=type) hat hap (hargs r (by simp)) (hargs x (by simp)) hw).next
   exact ret rfl (a4d.step ⟨g',v,w',by simpa[execOp,resolve,invoke,builtin] using k1,k2⟩)
 ·rename_i f args ats
  split at he<;>try cases he
  rename_i f' ags ht
  obtain⟨vs,hrl,hex⟩:=b2d (o:=⟨dst,.call ⟨.value f,args,ats⟩,type,pos,after,guard⟩) rfl ht hρ
  split at he
  ·rename_i r hr
   cases he
   obtain⟨v,k1,k2⟩:=b1s hr hrl
   exact ret rfl (a4d.step ⟨g,v,w,by rw[hex];exact k1 w,k2,Ext.refl g,hw⟩)
  ·split at he
   ·rename_i x hx
    cases he
    obtain⟨r,g',v,w',rfl,k1,k2,k3,k4⟩:=b3y hx hrl hw
    exact ret rfl (a4d.step ⟨g',v,w',by rw[hex];exact k1,k2,k3,k4⟩)
   obtain⟨hruns,hc⟩:=hcall.1 _ _ _ _ _ _ _ he
   refine⟨fun _ _=>trivial,?_⟩
   show Oper.uponIn (Wd ro) 0 P _ a K Q ((Oper.semAt ro a.eval _).run P w)
   rw[Oper.semAt_eq ro a.eval _ hnd,hex,hruns.enter,Oper.uponIn_enter]
   refine⟨fun h=>(by cases h),a9c.2 (hc c g w vs hrl hw _ ?_)⟩
   cases re with
   |ret r=>exact hK
   |pan r=>exact hK
end
end Go.Proofs.YtlimlmjljjmcpaaGreatDoor.Ax
