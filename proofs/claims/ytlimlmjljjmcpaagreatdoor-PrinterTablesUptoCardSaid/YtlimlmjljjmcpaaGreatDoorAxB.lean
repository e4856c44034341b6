import Derived.Test.YtlimlmjljjmcpaaGreatDoorAxA
import Derived.Defers
import Derived.ControlIn
import Derived.RecoverIn
import Derived.Lib.Case
import Derived.Lib.ItoaNum
import Derived.Test.YtlimlmjljjmcpaaGreatDoorShelf
import Derived.Test.YtlimlmjljjmcpaaGreatDoorShelf2
import Derived.KernelRfl
namespace Go.Proofs.YtlimlmjljjmcpaaGreatDoor.Ax
open Go.RowKit
set_option linter.unusedVariables false
set_option linter.unusedSimpArgs false
def DR1(g:Gm)(env:Nat->Value)(f:FuncId)(ags:List RV)(d:Deferred):Prop:=∃(vs:List Value) (cap dargs:Array Value),d = {target:=.fn (.func f) cap,args:=dargs}/\RL g env ags vs/\dargs++cap=vs.toArray
inductive DR(g:Gm)(env:Nat->Value):List DC->List Deferred->Prop
 |nil:DR g env [] []
 |call {f:FuncId} {ags:List RV} {d:Deferred} {ds:List DC} {l:List Deferred} (h:DR1 g env f ags d) (t:DR g env ds l):DR g env (.call f ags::ds) (d::l)
theorem DR.mono{g g':Gm}{env:Nat->Value}{ds:List DC}{l:List Deferred}(h:DR g env ds l)(hg:Ext g g'):DR g' env ds l:=by
 induction h with
 |nil=>exact .nil
 |call h t ih=>
  obtain⟨vs,cap,dargs,h1,h2,h3⟩:=h
  exact .call ⟨vs,cap,dargs,h1,h2.mono hg,h3⟩ ih
def DS(ro:Option Nat)(g:Gm)(env:Nat->Value):Option (List DC)->List Deferred->Prop
 |some ds,l=>ro=none/\DR g env ds l
 |none,_=>True
theorem DS.mono{ro:Option Nat}{g g':Gm}{env:Nat->Value}{ds:Option (List DC)}{l:List Deferred}(h:DS ro g env ds l)(hg:Ext g g'):DS ro g' env ds l:=by
 cases ds with
 |none=>trivial
 |some ds=>exact⟨h.1,h.2.mono hg⟩
structure SR(ro:Option Nat)(c:Cx)(g:Gm)(s:St)(a:Act)(w:World):Prop where
 rf:RF g c.env s.tm s.n a
 rw:RW c g s.h s.nx w
 df:DS ro g c.env s.ds a.defers
def a7F(ro:Option Nat)(c:Cx)(g:Gm)(Q:Exit->Act->World->Prop):RX->St->Prop
 |.normal,s=>∀g' a' w',Ext g g'->SR ro c g' s a' w'->Q .normal a' w'
 |.exit id,s=>∀g' a' w',Ext g g'->SR ro c g' s a' w'->Q (.exit id) a' w'
 |.ret,s=>∀g' a' w',Ext g g'->SR ro c g' s a' w'->Q .ret a' w'
 |.panic r,s=>∀g' v a' w',Ext g g'->SR ro c g' s a' w'->R g' c.env r v->Q (.panic [{v,recovered:=false}]) a' w'
def b2l(P:Program)(draw:a7J):Prop:=∀ops s x s',draw ops s=some (x,s') -> ∀(ro:Option Nat) (c:Cx) (g:Gm) (a:Act) (w:World) (Q:Exit->Act->World->Prop) (id:Nat),SR ro c g s a w->a7F ro c g Q x s'->(Code.region id ops true).wpIn (Wd ro) 0 P Q a w
section
variable {ro:Option Nat} {P:Program} {c:Cx} {g:Gm} {call:Q_} {draw:a7J}
theorem a7F.mono{Q:Exit->Act->World->Prop}{x:RX}{s:St}{g':Gm}(h:a7F ro c g Q x s)(hg:Ext g g'):a7F ro c g' Q x s:=by
 cases x with
 |normal=>exact fun g'' a' w' he hs=>h g'' a' w' (hg.trans he) hs
 |exit id=>exact fun g'' a' w' he hs=>h g'' a' w' (hg.trans he) hs
 |ret=>exact fun g'' a' w' he hs=>h g'' a' w' (hg.trans he) hs
 |panic r=>exact fun g'' v a' w' he hs hr=>h g'' v a' w' (hg.trans he) hs hr
theorem a2B{β:Type}{t:Tr RV}{n:Nat}{d:Option Tmp}{r:RV}{k:Tr RV->Option β}{y:β}(hp:a5d t n d r k=some y):∃t',k t'=some y /\ ∀ {g:Gm} {env:Nat->Value} {a:Act} {v:Value},RF g env t n a->R g env r v->RF g env t' n (a.put d v):=by
 unfold a5d at hp
 split at hp
 ·exact⟨t,hp,fun hf _=>hf.b9v _⟩
 ·rename_i d
  cases hb:Nat.ble (d+1) n with
  |false=>rw[hb] at hp;cases hp
  |true=>
   rw[hb,cond_true,a0U] at hp
   exact⟨_,hp,fun hf hr=>hf.put (Nat.le_of_ble_eq_true hb) hr⟩
theorem put_defers{a:Act}{d:Option Tmp}{v:Value}:(a.put d v).defers=a.defers:=by
 cases d<;>rfl
theorem b5o{a:Act}{d:Option Tmp}{v:Value}{env:Nat->Value}{ds:Option (List DC)}(h:DS ro g env ds a.defers):DS ro g env ds (a.put d v).defers:=by
 rw[put_defers]
 exact h
theorem a2u{t:Tr RV}{n:Nat}{a:Act}{ops:Array Oper}{o:Oper}{b:Bool}(hw:a1b t ops o=some b)(hf:RF g c.env t n a):Region.wanted o (yielded ops a.tmps)=b:=by
 unfold a1b at hw
 unfold Region.wanted
 split at hw
 ·rename_i hg
  cases hw
  rw[hg]
 ·rename_i j want hg
  rw[hg]
  simp only
  unfold yielded
  split at hw
  ·rename_i hd
   cases hw
   rw[hd]
   rfl
  ·rename_i d hd
   rw[hd]
   simp only[Option.bind_some]
   have hr:=hf.at_ d
   have hx:∀v:Value,a.tmps.getD d undef=v->(a.tmps[d]? = none/\v=undef)\/a.tmps[d]? = some v:=fun v hv=>by
    cases hx:a.tmps[d]? with
    |none=>
     rw[Array.getD_eq_getD_getElem?,hx] at hv
     exact .inl ⟨rfl,hv.symm⟩
    |some u=>
     have:a.tmps.getD d undef=u:=by simp[hx]
     rw[this] at hv
     exact .inr (by rw[hv])
   split at hw<;>try cases hw
   ·rename_i ht
    rw[ht] at hr
    generalize hv:a.tmps.getD d undef=v at hr
    cases hr
    rcases hx _ hv with⟨h1,_⟩|h1<;>rw[h1]<;>rfl
   ·rename_i bb ht
    rw[ht] at hr
    generalize hv:a.tmps.getD d undef=v at hr
    cases hr
    rcases hx _ hv with⟨h1,h2⟩|h1
    ·cases h2
    ·rw[h1]
     cases bb<;>cases want<;>cases hw<;>rfl
   ·rename_i vs ht
    rw[ht] at hr
    generalize hv:a.tmps.getD d undef=v at hr
    cases hr
    rcases hx _ hv with⟨h1,_⟩|h1<;>rw[h1]<;>rfl
theorem b3X(hcall:a0c P call){t:Tr RV}{h h':Hp}{nx nx':Nat}{o:Oper}{re:RE}{a:Act}{w:World}(he:opR P call t h nx o=some (re,h',nx'))(hρ:∀x∈o.op.operands,R g c.env (p_ t x) (a.eval x))(hw:RW c g h nx w){K:Act->World->Prop}{Q:Exit->Act->World->Prop}(hK:b9b c g h' nx' (fun e w'=>match e with
   |.returned v=>K (a.put o.dst v) w'
   |.panicked ch=>Q (.panic ch) a w'
   |.outgrown=>False) re):o.wpIn (Wd ro) 0 P a w K Q:=by
 unfold opR at he
 split at he
 ·split at he<;>cases he
  rename_i r hr
  exact((a5w hr hρ).c1s hw).step.wp (b0S hr) fun g' v w' k1 k2 k3=>hK g' v w' k1 k2 k3
 ·split at he<;>cases he
  rename_i r hr
  exact(a8A hr hρ hw).step.wp (b1m hr) fun g' v w' k1 k2 k3=>hK g' v w' k1 k2 k3
 ·split at he<;>try cases he
  rename_i r ob hr
  rw[J_,a0U] at he
  cases he
  have:=a7M (F':=c.F) (nx':=nx+1) hr hρ hw (fun e=>hw.free nx e (Nat.le_refl _)) (fun x f hx=>⟨hx,by have:=(hw.res x f hx).1;omega⟩) (Nat.le_succ _) (Nat.lt_succ_self _)
  exact(a4d.step (c:=c) this).wp (a8Z hr) fun g' v w' k1 k2 k3=>hK g' v w' k1 k2 k3
 ·exact b0x hcall he hρ hw hK
theorem a2x(hcall:a0c P call){ops:Array Oper}:∀(l:List Oper) (is:List Nat) (s s':St) (x:RX) (g:Gm) (a:Act) (w:World) (Q:Exit->Act->World->Prop),(∀k (h1:k<is.length) (h2:k<l.length),ops[is[k]]? = some l[k])->is.length=l.length->a7k P call ops l s=some (x,s')->SR ro c g s a w->a7F ro c g Q x s'->wpOpsIn (Wd ro) 0 P ops Q is a w
 |[],is,s,s',x,g,a,w,Q,hi,hl,hr,hs,hq=>by
  have:is=[]:=List.eq_nil_of_length_eq_zero hl
  subst this
  cases hr
  exact hq g a w (Ext.refl g) hs
 |o::l,[],s,s',x,g,a,w,Q,hi,hl,hr,hs,hq=>by simp at hl
 |o::l,i::is,s,s',x,g,a,w,Q,hi,hl,hr,hs,hq=>by
  have ho:ops[i]? = some o:=hi 0 (by simp) (by simp)
  have hi':∀k (h1:k<is.length) (h2:k<l.length),ops[is[k]]? = some l[k]:=fun k h1 h2=>hi (k+1) (by simpa using h1) (by simpa using h2)
  have hl':is.length=l.length:=by simpa using hl
  simp only[wpOpsIn,ho]
  unfold a7k at hr
  split at hr<;>try cases hr
  ·rename_i hw
   rw[if_pos (a2u (c:=c) hw hs.rf)]
   split at hr<;>try cases hr
   ·rename_i r h' nx' hop
    obtain⟨t',h1,h2⟩:=a2B hr
    refine b3X hcall hop (fun x _=>a2P hs.rf x) hs.rw fun g' v w' k1 k2 k3=>?_
    exact a2x hcall l is _ s' x g' _ _ Q hi' hl' h1 ⟨h2 (hs.rf.mono k2) k1,k3,b5o (hs.df.mono k2)⟩ (hq.mono k2)
   ·rename_i r h' nx' hop
    refine b3X hcall hop (fun x _=>a2P hs.rf x) hs.rw fun g' v w' k1 k2 k3=>?_
    exact hq g' v a w' k2 ⟨hs.rf.mono k2,k3,hs.df.mono k2⟩ k1
   ·split at hr<;>try cases hr
    rename_i f ags hd
    split at hr<;>try cases hr
    rename_i dl hdl
    obtain⟨t',h1,h2⟩:=a2B hr
    unfold b9D at hd
    split at hd<;>try cases hd
    rename_i fx args ats hop
    obtain⟨vs,cap,dargs,k1,k2,k3⟩:=b1z (c:=c) hop hd (fun x _=>a2P hs.rf x)
    have hdf:=hs.df
    rw[hdl] at hdf
    obtain⟨hro,hdr⟩:=hdf
    have hsem:o.semAt ro a.eval=execOp a.eval o:=by rw[hro];rfl
    refine⟨fun _ _=>trivial,?_⟩
    show o.uponIn (Wd ro) 0 P a _ Q ((o.semAt ro a.eval).run P w)
    rw[hsem,k2,Oper.uponIn_defer]
    have hrf:RF g c.env s.tm s.n {a with defers:={target:=.fn (.func f) cap,args:=dargs}::a.defers}:=⟨hs.rf.size,hs.rf.at_⟩
    exact a2x hcall l is _ s' x g _ _ Q hi' hl' h1 ⟨h2 hrf (.lit _),hs.rw,b5o ⟨hro,.call ⟨vs,cap,dargs,rfl,k1,k3⟩ hdr⟩⟩ hq
  ·rename_i hw
   rw[if_neg (by rw[a2u (c:=c) hw hs.rf];simp)]
   obtain⟨t',h1,h2⟩:=a2B hr
   exact⟨fun _ _=>trivial,a2x hcall l is _ s' x g _ _ Q hi' hl' h1 ⟨h2 hs.rf (.lit _),hs.rw,b5o hs.df⟩ hq⟩
theorem a8l{ro:Option Nat}(n:Nat):(Wd ro).room n:=fun _ h=>by cases h
theorem b0G{ro:Option Nat}(m:Machine):m.fenced P (Wd ro):=fenced_wide P m
theorem a8Q{body:St->Option (RX × St)}{code:Code}(hb:∀s s' x g a w Q,body s=some (x,s')->SR ro c g s a w->a7F ro c g Q x s'->code.wpIn (Wd ro) 0 P Q a w){s':St}{x:RX}{Q:Exit->Act->World->Prop}(b:Frame)(k:List Item)(cs:List Frame)(hro:b.roundOf=ro) :
  ∀(n:Nat) (s:St) (g:Gm) (a:Act) (w:World),b6e body n s=some (x,s')->SR ro c g s a w->a7F ro c g Q x s' -> ∃e a' w',Q e a' w'/\ArrivesIn (Machine.fenced P (Wd ro)) P (lone (b.atR a (.code code :: .inLoop code::k)) cs w) b k cs e a' w'
 |0,s,g,a,w,hr,hs,hq=>by cases hr
 |n+1,s,g,a,w,hr,hs,hq=>by
  unfold b6e at hr
  have fin:∀ {e:Exit} {a₁:Act} {w₁:World},e ≠ .normal->Q e a₁ w₁->ArrivesIn (Machine.fenced P (Wd ro)) P (lone (b.atR a (.code code :: .inLoop code::k)) cs w) b (.inLoop code::k) cs e a₁ w₁ -> ∃e a' w',Q e a' w'/\ArrivesIn (Machine.fenced P (Wd ro)) P (lone (b.atR a (.code code :: .inLoop code::k)) cs w) b k cs e a' w':=fun hne hq harr=>
   ⟨_,_,_,hq,.pass (x:=.inLoop code) rfl (fun _ _=>.inl hne) harr⟩
  split at hr
  ·rename_i s1 h1
   obtain⟨e,a₁,w₁,hq1,harr⟩:=hb s s1 .normal g a w (fun e a₁ w₁=>e=.normal /\ ∃g',Ext g g'/\SR ro c g' s1 a₁ w₁) h1 hs (fun g' a' w' k1 k2=>⟨rfl,g',k1,k2⟩) b (.inLoop code::k) cs hro trivial (a8l _)
   obtain⟨rfl,g',k1,k2⟩:=hq1
   obtain⟨e₂,a₂,w₂,hq₂,harr₂⟩:=a8Q hb b k cs hro n s1 g' a₁ w₁ hr k2 (hq.mono k1)
   exact⟨e₂,a₂,w₂,hq₂,.of_steps (StepsIn.trans harr (.one (b0G _) stepR_inLoop)) harr₂⟩
  ·rename_i hne
   cases x with
   |normal=>exact absurd hr (hne s')
   |exit id=>
    obtain⟨e,a₁,w₁,hq1,harr⟩:=hb s s' (.exit id) g a w (fun e a₁ w₁=>e ≠ .normal/\Q e a₁ w₁) hr hs (fun g' a' w' k1 k2=>⟨by simp,hq g' a' w' k1 k2⟩) b (.inLoop code::k) cs hro trivial (a8l _)
    exact fin hq1.1 hq1.2 harr
   |ret=>
    obtain⟨e,a₁,w₁,hq1,harr⟩:=hb s s' .ret g a w (fun e a₁ w₁=>e ≠ .normal/\Q e a₁ w₁) hr hs (fun g' a' w' k1 k2=>⟨by simp,hq g' a' w' k1 k2⟩) b (.inLoop code::k) cs hro trivial (a8l _)
    exact fin hq1.1 hq1.2 harr
   |panic r=>
    obtain⟨e,a₁,w₁,hq1,harr⟩:=hb s s' (.panic r) g a w (fun e a₁ w₁=>e ≠ .normal/\Q e a₁ w₁) hr hs (fun g' v a' w' k1 k2 k3=>⟨by simp,hq g' v a' w' k1 k2 k3⟩) b (.inLoop code::k) cs hro trivial (a8l _)
    exact fin hq1.1 hq1.2 harr
theorem a0t(hcall:a0c P call)(hdraw:b2l P draw):∀(code:Code) (s s':St) (x:RX) (g:Gm) (a:Act) (w:World) (Q:Exit->Act->World->Prop),a3a P call draw code s=some (x,s')->SR ro c g s a w->a7F ro c g Q x s'->code.wpIn (Wd ro) 0 P Q a w
 |.skip,s,s',x,g,a,w,Q,hr,hs,hq=>by
  cases hr
  exact wpIn_skip (hq g a w (Ext.refl g) hs)
 |.label l,s,s',x,g,a,w,Q,hr,hs,hq=>by
  cases hr
  exact wpIn_label (hq g a w (Ext.refl g) hs)
 |.exit id,s,s',x,g,a,w,Q,hr,hs,hq=>by
  cases hr
  exact wpIn_exit (hq g a w (Ext.refl g) hs)
 |.ret,s,s',x,g,a,w,Q,hr,hs,hq=>by
  cases hr
  exact wpIn_ret (hq g a w (Ext.refl g) hs)
 |.seq p q,s,s',x,g,a,w,Q,hr,hs,hq=>by
  unfold a3a at hr
  refine wpIn_seq ?_
  split at hr
  ·rename_i s1 h1
   exact a0t hcall hdraw p s s1 .normal g a w _ h1 hs fun g' a' w' k1 k2=>a0t hcall hdraw q s1 s' x g' a' w' Q hr k2 (hq.mono k1)
  ·rename_i hne
   refine a0t hcall hdraw p s s' x g a w _ hr hs ?_
   cases x with
   |normal=>exact absurd hr (hne s')
   |exit id=>exact hq
   |ret=>exact hq
   |panic r=>exact hq
 |.cond o p q,s,s',x,g,a,w,Q,hr,hs,hq=>by
  unfold a3a at hr
  have ho:=a2P hs.rf o
  split at hr<;>try cases hr
  ·rename_i e
   rw[e] at ho
   generalize hv:a.eval o=v at ho
   cases ho
   exact wpIn_cond_true hv (a0t hcall hdraw p s s' x g a w Q hr hs hq)
  ·rename_i e
   rw[e] at ho
   generalize hv:a.eval o=v at ho
   cases ho
   exact wpIn_cond_false hv (a0t hcall hdraw q s s' x g a w Q hr hs hq)
 |.block id p,s,s',x,g,a,w,Q,hr,hs,hq=>by
  unfold a3a at hr
  refine wpIn_block ?_
  split at hr
  ·rename_i id' s1 h1
   refine a0t hcall hdraw p s s1 (.exit id') g a w _ h1 hs fun g' a' w' k1 k2=>?_
   show if id'=id then Q .normal a' w' else Q (.exit id') a' w'
   cases hb:Nat.beq id' id with
   |true=>
    rw[hb,cond_true] at hr
    cases hr
    rw[if_pos (Nat.eq_of_beq_eq_true hb)]
    exact hq g' a' w' k1 k2
   |false=>
    rw[hb,cond_false] at hr
    cases hr
    rw[if_neg (fun e=>by rw[e,Nat.beq_refl] at hb;cases hb)]
    exact hq g' a' w' k1 k2
  ·rename_i hne
   refine a0t hcall hdraw p s s' x g a w _ hr hs ?_
   cases x with
   |exit id'=>exact absurd hr (hne id' s')
   |normal=>exact hq
   |ret=>exact hq
   |panic r=>exact hq
 |.loop p,s,s',x,g,a,w,Q,hr,hs,hq=>by
  unfold a3a at hr
  intro b k cs hro hb hroom
  obtain⟨e,a',w',h1,h2⟩:=a8Q (fun s s' x g a w Q h1 h2 h3=>a0t hcall hdraw p s s' x g a w Q h1 h2 h3) b k cs hro 1000000 s g a w hr hs hq
  exact⟨e,a',w',h1,.of_steps (.one (b0G _) stepR_loop) h2⟩
 |.region id ops false,s,s',x,g,a,w,Q,hr,hs,hq=>by
  unfold a3a at hr
  refine wpIn_region (a2x hcall ops.toList (List.range ops.size) s s' x g a w Q (fun k h1 h2=>?_) (by simp) hr hs hq)
  simp only[List.getElem_range]
  have:k<ops.size:=by simpa using h2
  simp[this]
 |.region id ops true,s,s',x,g,a,w,Q,hr,hs,hq=>hdraw ops s x s' hr ro c g a w Q id hs hq
 |.rangeFunc _ _ _ _,s,s',x,g,a,w,Q,hr,hs,hq=>by cases hr
 |.scope _,s,s',x,g,a,w,Q,hr,hs,hq=>by cases hr
 |.goto _,s,s',x,g,a,w,Q,hr,hs,hq=>by cases hr
 |.refuse _,s,s',x,g,a,w,Q,hr,hs,hq=>by cases hr
theorem a6W{β:Type}:∀(l:List RV) (i:Nat) (t:Tr RV) (k:Tr RV->β),∃t',b8t l i t k=k t' /\ ∀j,t'.get j=if i<=j then(match l[j - i]? with
  |some r=>some r
  |none=>t.get j) else t.get j
 |[],i,t,k=>⟨t,rfl,fun j=>by simp⟩
 |r::l,i,t,k=>by
  obtain⟨t',h1,h2⟩:=a6W l (i+1) (t.set i r) k
  refine⟨t',by rw[b8t,a0U];exact h1,fun j=>?_⟩
  rw[h2 j,Tr.a1q]
  rcases Nat.lt_trichotomy j i with h|h|h
  ·rw[if_neg (by omega),if_neg (by omega),if_neg (by omega)]
  ·subst h
   rw[if_neg (by omega),if_pos rfl,if_pos (Nat.le_refl _),Nat.sub_self]
   rfl
  ·rw[if_pos (by omega),if_neg (by omega),if_pos (by omega)]
   have:j - i=(j - (i+1))+1:=by omega
   rw[this,List.getElem?_cons_succ]
theorem RF.start{args:List RV}{vs:List Value}{n:Nat}{t:Tr RV}(hr:RL g c.env args vs)(ht:∀j,t.get j=if 0<=j then(match args[j - 0]? with
  |some r=>some r
  |none=>(Tr.leaf:Tr RV).get j) else(Tr.leaf:Tr RV).get j):RF g c.env t (max n args.length) {tmps:=vs.toArray++Array.replicate (n - vs.toArray.size) undef,defers:=[]}:=by
 have hlen:=hr.len
 refine⟨by simp;omega,fun i=>?_⟩
 rw[ht i,if_pos (Nat.zero_le _),Nat.sub_zero]
 rcases Nat.lt_or_ge i args.length with hi|hi
 ·have hv:i<vs.length:=by omega
  rw[List.getElem?_eq_getElem hi]
  have e:(vs.toArray++Array.replicate (n - vs.toArray.size) undef).getD i undef=vs[i]:=by
   have:i<(vs.toArray++Array.replicate (n - vs.toArray.size) undef).size:=by simp;omega
   simp[Array.getD,this,Array.getElem_append,hv]
   intro hh
   omega
  rw[e]
  exact hr.at_ i hi hv
 ·rw[List.getElem?_eq_none hi]
  have e:(vs.toArray++Array.replicate (n - vs.toArray.size) undef).getD i undef=undef:=by
   rw[Array.getD_eq_getD_getElem?,Array.getElem?_append]
   rw[if_neg (by simp;omega)]
   rw[Array.getElem?_replicate]
   split<;>rfl
  rw[e]
  exact .lit _
theorem a6H{s:St}{a:Act}{w:World}(hs:SR ro c g s a w)(f:ResultVar->Sem Value)(hf:∀x r,b2b P s x=some r -> ∃v,(f x).run P w=.ok v w/\R g c.env r v):∀(l:List ResultVar) (rs:List RV),a3k P s l=some rs -> ∃vs:List Value,(l.mapM f).run P w=.ok vs w/\RL g c.env rs vs
 |[],rs,hr=>by
  cases hr
  exact⟨[],rfl,.nil⟩
 |x::l,rs,hr=>by
  unfold a3k at hr
  split at hr<;>try cases hr
  rename_i r h1
  split at hr<;>cases hr
  rename_i rs' h2
  obtain⟨v,k1,k2⟩:=hf x r h1
  obtain⟨vs,k3,k4⟩:=a6H hs f hf l rs' h2
  refine⟨v::vs,?_,.cons k2 k4⟩
  rw[List.mapM_cons,Sem.run_bind,k1]
  simp only[Result.andThen_ok,Sem.run_bind,k3]
  rfl
theorem b4y{s:St}{a:Act}{w:World}{l:Array ResultVar}{rs:List RV}(hs:SR ro c g s a w)(hr:a3k P s l.toList=some rs)(f:ResultVar->Sem Value)(hf:∀x r,b2b P s x=some r -> ∃v,(f x).run P w=.ok v w/\R g c.env r v) :
  ∃v,(do let vs <-l.mapM f;pure (if h:vs.size=1 then vs[0] else Value.tuple vs):Sem Value).run P w=.ok v w/\R g c.env (oneOf rs) v:=by
 obtain⟨vs,h1,h2⟩:=a6H hs f hf _ _ hr
 have h3:(do let vs <-l.mapM f;pure (if h:vs.size=1 then vs[0] else Value.tuple vs):Sem Value).run P w=.ok (if h:vs.toArray.size=1 then vs.toArray[0] else .tuple vs.toArray) w:=by
  rw[Array.mapM_eq_mapM_toList,Sem.run_bind,Sem.run_map,h1]
  rfl
 refine⟨_,h3,?_⟩
 have hlen:=h2.len
 rcases rs with _|⟨r,_|⟨r2,rs⟩⟩
 ·have:vs=[]:=List.eq_nil_of_length_eq_zero hlen.symm
  subst this
  exact .tup rfl fun i h1=>absurd h1 (by simp)
 ·rcases vs with _|⟨v,_|⟨v2,vs⟩⟩
  ·simp at hlen
  ·exact h2.tail.1
  ·simp at hlen
 ·have hne:¬(vs.toArray.size=1):=by
   simp only[List.length_cons] at hlen
   simp
   omega
  rw[dif_neg hne]
  exact .tup (by simpa using hlen) fun i h1 h3=>by simpa using h2.at_ i h1 (by simpa using h3)
theorem b0r{s:St}{a:Act}{w:World}{fn:Func}{rs:List RV}(hs:SR ro c g s a w)(hr:a3k P s fn.results.toList=some rs):∃v,(results fn a.tmps).run P w=.ok v w/\R g c.env (oneOf rs) v:=by
 refine b4y hs hr _ fun x r hx=>?_
 cases x with
 |tmp t=>
  cases hx
  exact⟨_,rfl,a2P hs.rf (.tmp t)⟩
 |cell ad ty=>
  obtain⟨v,ad',h0,h1,h2⟩:=a9m (P:=P) hx (a2P hs.rf (.tmp ad)) hs.rw
  refine⟨v,?_,h2⟩
  rw[h0] at h1
  have h0':a.tmps.getD ad undef=.pointer (some ad'):=h0
  rw[<-h1]
  show(do loadVar ty (<-asAddr (a.tmps.getD ad undef)):Sem Value).run P w=_
  rw[h0']
  rfl
theorem a5Q{c:Cx}{ops:Array Oper}{cs:List Frame}(hcs:recoverD cs=none){w:World}:∀(l:List Oper) (is:List Nat) (t t':Tr RV) (m:Nat) (a:Act) (Q:Exit->Act->List Frame->World->Prop),(∀k (h1:k<is.length) (h2:k<l.length),ops[is[k]]? = some l[k])->is.length=l.length->a4J P ops l t m=some t'->RF g c.env t m a->(∀a',RF g c.env t' m a'->a'.defers=a.defers->Q .normal a' cs w)->wpOpsSIn (Wd none) 0 P ops Q is a cs w
 |[],is,t,t',m,a,Q,hi,hl,hr,hs,hq=>by
  have:is=[]:=List.eq_nil_of_length_eq_zero hl
  subst this
  cases hr
  exact hq a hs rfl
 |o::l,[],t,t',m,a,Q,hi,hl,hr,hs,hq=>by simp at hl
 |o::l,i::is,t,t',m,a,Q,hi,hl,hr,hs,hq=>by
  have ho:ops[i]? = some o:=hi 0 (by simp) (by simp)
  have hi':∀k (h1:k<is.length) (h2:k<l.length),ops[is[k]]? = some l[k]:=fun k h1 h2=>hi (k+1) (by simpa using h1) (by simpa using h2)
  have hl':is.length=l.length:=by simpa using hl
  simp only[wpOpsSIn,ho]
  refine⟨fun _ _=>trivial,?_⟩
  unfold a4J at hr
  split at hr<;>try cases hr
  ·rename_i hw
   rw[if_neg (by rw[a2u (c:=c) hw hs];simp)]
   obtain⟨t1,h1,h2⟩:=a2B hr
   exact a5Q hcs l is t1 t' m _ Q hi' hl' h1 (h2 hs (.lit _)) fun a' k1 k2=>hq a' k1 (k2.trans put_defers)
  ·rename_i hw
   rw[if_pos (a2u (c:=c) hw hs)]
   split at hr
   ·rename_i hrec
    obtain⟨t1,h1,h2⟩:=a2B hr
    have hrun:(execOp a.eval o).run P w=.ok .recover w:=by
     unfold isRecover at hrec
     split at hrec<;>try cases hrec
     rename_i args tys e
     simp[execOp,e,resolve,invoke,builtin,Sem.run_bind]
    rw[hrun]
    simp only[hcs]
    exact a5Q hcs l is t1 t' m _ Q hi' hl' h1 (h2 hs (.lit _)) fun a' k1 k2=>hq a' k1 (k2.trans put_defers)
   ·split at hr<;>try cases hr
    split at hr<;>try cases hr
    rename_i r hp
    obtain⟨t1,h1,h2⟩:=a2B hr
    obtain⟨v,k1,k2⟩:=a5w (g:=g) (env:=c.env) (ρ:=a.eval) hp fun x _=>a2P hs x
    rw[k1 w]
    exact a5Q hcs l is t1 t' m _ Q hi' hl' h1 (h2 hs k2) fun a' k1 k2=>hq a' k1 (k2.trans put_defers)
theorem a2C{c:Cx}{cs:List Frame}(hcs:recoverD cs=none){w:World}:∀(code:Code) (t t':Tr RV) (b:Bool) (m:Nat) (a:Act) (Q:Exit->Act->List Frame->World->Prop),a5i P code t m=some (b,t')->RF g c.env t m a->(∀a',RF g c.env t' m a'->a'.defers=a.defers->Q (if b then .ret else .normal) a' cs w)->code.wpSIn (Wd none) 0 P Q a cs w
 |.skip,t,t',b,m,a,Q,hr,hs,hq=>by
  cases hr
  exact wpSIn_of_wpIn rfl (wpIn_skip (hq a hs rfl))
 |.ret,t,t',b,m,a,Q,hr,hs,hq=>by
  cases hr
  exact wpSIn_of_wpIn rfl (wpIn_ret (hq a hs rfl))
 |.region _ ops false,t,t',b,m,a,Q,hr,hs,hq=>by
  unfold a5i at hr
  split at hr<;>cases hr
  rename_i h1
  refine wpSIn_region (a5Q hcs ops.toList (List.range ops.size) t t' m a Q (fun k h1 h2=>?_) (by simp) h1 hs hq)
  simp only[List.getElem_range]
  have:k<ops.size:=by simpa using h2
  simp[this]
 |.seq x y,t,t',b,m,a,Q,hr,hs,hq=>by
  unfold a5i at hr
  refine wpSIn_seq ?_
  split at hr
  ·rename_i t1 h1
   exact a2C hcs x t t1 false m a _ h1 hs fun a' k1 k2=>a2C hcs y t1 t' b m a' Q hr k1 fun a'' k3 k4=>hq a'' k3 (k4.trans k2)
  ·rename_i hne
   cases b with
   |false=>exact absurd hr (hne t')
   |true=>exact a2C hcs x t t' true m a _ hr hs hq
 |.cond o x y,t,t',b,m,a,Q,hr,hs,hq=>by
  unfold a5i at hr
  have ho:=a2P hs o
  split at hr<;>try cases hr
  ·rename_i e
   rw[e] at ho
   generalize hv:a.eval o=v at ho
   cases ho
   exact wpSIn_cond (t:=true) hv (a2C hcs x t t' b m a Q hr hs hq)
  ·rename_i e
   rw[e] at ho
   generalize hv:a.eval o=v at ho
   cases ho
   exact wpSIn_cond (t:=false) hv (a2C hcs y t t' b m a Q hr hs hq)
 |.region _ _ true,_,_,_,_,_,_,hr,_,_=>by cases hr
 |.block _ _,_,_,_,_,_,_,hr,_,_=>by cases hr
 |.loop _,_,_,_,_,_,_,hr,_,_=>by cases hr
 |.exit _,_,_,_,_,_,_,hr,_,_=>by cases hr
 |.label _,_,_,_,_,_,_,hr,_,_=>by cases hr
 |.rangeFunc _ _ _ _,_,_,_,_,_,_,hr,_,_=>by cases hr
 |.scope _,_,_,_,_,_,_,hr,_,_=>by cases hr
 |.goto _,_,_,_,_,_,_,hr,_,_=>by cases hr
 |.refuse _,_,_,_,_,_,_,hr,_,_=>by cases hr
theorem b5b{c:Cx}{f:FuncId}{ags:List RV}{vs:List Value}(hi:b8B P f ags=true)(hv:RL g c.env ags vs)(w:World):b4d P f/\CallsDIn (Wd none) 0 P f vs.toArray .returning w fun e u' w'=>u'=.returning/\e=.returned (.tuple #[])/\w'=w:=by
 unfold b8B at hi
 split at hi<;>try cases hi
 rename_i fn code hfr
 cases hcr:a1c code with
 |false=>rw[hcr] at hi;cases hi
 |true=>
  rw[hcr,cond_true] at hi
  split at hi<;>try cases hi
  rename_i hres
  have hruns:P.funcs[f]? = some fn /\ ¬(fn.name == "runtime.NumGoroutine")=true/\fn.body=some code:=by
   unfold b2L at hfr
   split at hfr<;>try cases hfr
   rename_i fn' hfn
   split at hfr<;>try cases hfr
   rename_i hname
   split at hfr<;>cases hfr
   rename_i hb
   exact⟨hfn,hname,hb⟩
  obtain⟨t,ht,hget⟩:=a6W ags 0 .leaf fun t=>(a5i P code t (max fn.ntmps ags.length)).isSome
  rw[ht] at hi
  obtain⟨⟨b,t'⟩,hex⟩:=Option.isSome_iff_exists.1 hi
  refine⟨⟨fn,code,hruns⟩,callsDIn_of_wpSIn hruns.1 hruns.2.2 trivial fun c₀ cs hu=>?_⟩
  have hcs:recoverD (c₀::cs)=none:=by
   simp[recoverD,hu]
  have hres':fn.results=#[]:=by rw[<-Array.toArray_toList (xs:=fn.results),hres]
  refine a2C (c:=c) hcs code t t' b _ _ _ hex (RF.start hv hget) fun a' k1 k2=>?_
  have hrr:∀tmps:Array Value,(results fn tmps).run P w=.ok (.tuple #[]) w:=fun tmps=>by
   simp[results,hres']
  have hc0:({c₀ with mode:=.returning}:Frame)=c₀:=by rw[<-hu]
  cases b<;>exact⟨k2,.returning,by rw[hc0],_,hrr _,rfl,rfl,rfl⟩
theorem a7C{orc:Q_}{fn:Func}{tmps:Array Value}{K:Ending->World->Prop}:∀(ds:List DC) (l:List Deferred) (h h':Hp) (nx nx':Nat) (g:Gm) (w:World),b2n P orc call ds h nx=some (h',nx')->DR g c.env ds l->RW c g h nx w->(∀g' w',Ext g g'->RW c g' h' nx' w' -> ∃v,(results fn tmps).run P w'=.ok v w'/\K (.returned v) w')->LeavesInM (Wd none) 0 P fn tmps K l .returning w
 |[],l,h,h',nx,nx',g,w,hr,hd,hw,hK=>by
  cases hr
  cases hd
  exact hK g w (Ext.refl g) hw
 |.call f ags::ds,l,h,h',nx,nx',g,w,hr,hd,hw,hK=>by
  cases hd with
  |call h1 hl=>
  obtain⟨vs,cap,dargs,rfl,k1,k2⟩:=h1
  unfold b2n at hr
  split at hr<;>try cases hr
  rename_i hidle
  obtain⟨hrun,hcd⟩:=b5b (g:=g) (c:=c) hidle k1 w
  refine⟨by simp,.inr ⟨fun h=>(by cases h),.func f,cap,f,vs.toArray,rfl,?_,fun _ _=>trivial,?_⟩⟩
  ·rw[<-k2]
   exact hrun.enter _ w
  ·refine hcd.mono fun e u' w' hh=>?_
   obtain⟨rfl,rfl,rfl⟩:=hh
   exact a7C ds _ h h' nx nx' g w' hr hl hw hK
theorem b5J{orc:Q_}{draw:a7J}(horc:a0c P orc)(ih:a0c P call)(hdraw:b2l P draw):a0c P (b0F P orc call draw):=by
  have both:∀f args h nx re h' nx',orc (.fn f) args h nx=none->b0F P orc call draw (.fn f) args h nx=some (re,h',nx') -> ∀(c:Cx) (g:Gm) (w:World) (vs:List Value),RL g c.env args vs->RW c g h nx w -> ∀K,b9b c g h' nx' K re -> ∃fn code,P.funcs[f]? = some fn/\fn.body=some code/\code.wpIn (Wd none) 0 P (bodyPostM (Wd none) 0 P fn K) {tmps:=vs.toArray++Array.replicate (fn.ntmps - vs.toArray.size) undef,defers:=[]} w:=by
   intro f args h nx re h' nx' hno hc c g w vs hrl hw K hK
   rw[b0F] at hc
   split at hc<;>try cases hc
   rename_i fn code hfr
   have hruns:P.funcs[f]? = some fn /\ ¬(fn.name == "runtime.NumGoroutine")=true/\fn.body=some code:=by
    unfold b2L at hfr
    split at hfr<;>try cases hfr
    rename_i fn' hfn
    split at hfr<;>try cases hfr
    rename_i hname
    split at hfr<;>cases hfr
    rename_i hb
    exact⟨hfn,hname,hb⟩
   rw[hno] at hc
   refine⟨fn,code,hruns.1,hruns.2.2,?_⟩
   obtain⟨t,ht,hget⟩:=a6W args 0 .leaf fun t=>c1G P orc call fn (a3a P call draw code ⟨t,max fn.ntmps args.length,h,nx,some []⟩)
   simp only at hc
   rw[ht] at hc
   have hs:SR none c g ⟨t,max fn.ntmps args.length,h,nx,some []⟩ {tmps:=vs.toArray++Array.replicate (fn.ntmps - vs.toArray.size) undef,defers:=[]} w:=⟨RF.start hrl hget,hw,rfl,.nil⟩
   have done:∀ {s:St},c0C P orc call fn s s.ds=some (re,h',nx') -> ∀ {g':Gm} {a':Act} {w':World},Ext g g'->SR none c g' s a' w'->LeavesInM (Wd none) 0 P fn a'.tmps K a'.defers .returning w':=fun {s} hh {g' a' w'} k1 k2=>by
    have hdf:=k2.df
    unfold c0C at hh
    split at hh<;>try cases hh
    rename_i dl hdl
    rw[hdl] at hdf
    unfold c1w at hh
    split at hh<;>try cases hh
    rename_i h1 n1 hlv
    split at hh<;>cases hh
    rename_i rs hrs
    refine a7C dl a'.defers s.h _ s.nx _ g' w' hlv hdf.2 k2.rw fun g'' w'' k3 k4=>?_
    obtain⟨v,e1,e2⟩:=b0r (s:=⟨s.tm,s.n,h',nx',s.ds⟩) (a:=a') ⟨k2.rf.mono k3,k4,k2.df.mono k3⟩ hrs
    exact⟨v,e1,hK g'' v w'' e2 (k1.trans k3) k4⟩
   unfold c1G at hc
   split at hc<;>try cases hc
   ·rename_i s hx
    exact a0t (ro:=none) ih hdraw code _ s .normal g _ w _ hx hs fun g' a' w' k1 k2=>done hc k1 k2
   ·rename_i s hx
    exact a0t (ro:=none) ih hdraw code _ s .ret g _ w _ hx hs fun g' a' w' k1 k2=>done hc k1 k2
   ·rename_i v s hx
    split at hc<;>cases hc
    rename_i hds
    refine a0t (ro:=none) ih hdraw code _ s (.panic v) g _ w _ hx hs fun g' u a' w' k1 k2 k3=>?_
    have hd:=k2.df
    rw[hds] at hd
    show LeavesInM (Wd none) 0 P fn a'.tmps K a'.defers (.panicking [{v:=u,recovered:=false}]) w'
    cases hd':a'.defers with
    |nil=>exact hK g' u w' k3 k1 k2.rw
    |cons x l=>
     rw[hd'] at hd
     cases hd.2
  refine⟨fun f args h nx re h' nx' hc=>?_,fun G args h nx re h' nx' hc=>by cases hc⟩
  ·cases ho:orc (.fn f) args h nx with
   |some r=>
    have hc':=hc
    rw[b0F] at hc'
    split at hc'<;>try cases hc'
    rw[ho] at hc'
    cases hc'
    exact horc.1 _ _ _ _ _ _ _ ho
   |none=>
    have hc':=hc
    rw[b0F] at hc'
    split at hc'<;>try cases hc'
    rename_i fn code hfr
    refine⟨⟨fn,code,?_⟩,fun c g w vs hrl hw K hK=>?_⟩
    ·unfold b2L at hfr
     split at hfr<;>try cases hfr
     rename_i fn' hfn
     split at hfr<;>try cases hfr
     rename_i hname
     split at hfr<;>cases hfr
     rename_i hb
     exact⟨hfn,hname,hb⟩
    ·obtain⟨fn,code,k1,k2,k3⟩:=both f args h nx re h' nx' ho hc c g w vs hrl hw K hK
     exact a9c.1 (callsIn_of_wp_marks k1 k2 trivial k3)
theorem a5m{orc:Q_}{draw:Q_->a7J}(horc:a0c P orc)(hdraw:∀call,a0c P call->b2l P (draw call)):∀d,a0c P (a0y P orc draw d)
 |0=>⟨fun f args h nx re h' nx' hc=>by(cases hc),fun f args h nx re h' nx' hc=>by(cases hc)⟩
 |d+1=>b5J horc (a5m horc hdraw d) (hdraw _ (a5m horc hdraw d))
end
end Go.Proofs.YtlimlmjljjmcpaaGreatDoor.Ax
namespace Go.Proofs.YtlimlmjljjmcpaaGreatDoor.Ax
open Go.RowKit
set_option linter.unusedVariables false
set_option linter.unusedSimpArgs false
def eqV:Value->Value->Bool
 |.bool a,.bool b=>a==b
 |.int j (.ofNat a),.int k (.ofNat b)=>(if j=k then true else false)&&Nat.beq a b
 |.int j (.negSucc a),.int k (.negSucc b)=>(if j=k then true else false)&&Nat.beq a b
 |.pointer none,.pointer none=>true
 |.slice none 0 0,.slice none 0 0=>true
 |.map none,.map none=>true
 |.nilFunc,.nilFunc=>true
 |.nilIface,.nilIface=>true
 |.func (.func f) a b,.func (.func h) c d=>Nat.beq f h&&(match a.toList,b.toList,c.toList,d.toList with
  |[],[],[],[]=>true
  |_,_,_,_=>false)
 |.tuple a,.tuple b=>(match a.toList,b.toList with
  |[],[]=>true
  |_,_=>false)
 |_,_=>false
mutual
def a1w:RV->RV->Bool
 |.lit u,.lit v=>eqV u v
 |.str l,.str m=>a3C l m
 |.opq i,.opq j=>Nat.beq i j
 |.ptr a b c,.ptr d e f=>Nat.beq a d&&Nat.beq b e&&Nat.beq c f
 |.sl a b c x y,.sl d e f u v=>Nat.beq a d&&Nat.beq b e&&Nat.beq c f&&Nat.beq x u&&Nat.beq y v
 |.s0 a b c,.s0 d e f=>Nat.beq a d&&Nat.beq b e&&Nat.beq c f
 |.se,.se=>true
 |.mp a,.mp b=>Nat.beq a b
 |.agg l,.agg m=>a4B l m
 |.tup l,.tup m=>a4B l m
 |.ifc t r,.ifc u s=>Nat.beq t u&&a1w r s
 |.clo f a l,.clo h b m=>Nat.beq f h&&a4B a b&&a4B l m
 |_,_=>false
def a4B:List RV->List RV->Bool
 |[],[]=>true
 |r::l,s::m=>a1w r s&&a4B l m
 |_,_=>false
end
def a9z(mk:Tr Nat)(i:Nat):List Edge->Nat->Option Nat
 |[],m=>some m
 |e::es,m=>bif Region.binds .any e then(bif Nat.ble (e.on+1) i then a9z mk i es (m ||| 2 ^ e.on ||| (mk.get e.on).getD 0) else none) else a9z mk i es m
def a8p:List Oper->Nat->Tr Nat->Option (Tr Nat)
 |[],_,mk=>some mk
 |o::l,i,mk=>match a9z mk i o.after.toList 0 with
  |some m=>a8p l (i+1) (mk.set i m)
  |none=>none
def a6M(ops:Array Oper)(m:Nat)(o:Oper):List Oper->Nat->Bool
 |[],_=>true
 |p::l,i=>(m.testBit i || p.apart ops o)&&a6M ops m o l (i+1)
def a6D(ops:Array Oper)(mk:Tr Nat):List Oper->Nat->Bool
 |[],_=>true
 |o::l,j=>a6M ops ((mk.get j).getD 0) o (ops.toList.take j) 0&&a6D ops mk l (j+1)
def statOf(P:Program)(ops:Array Oper):Option (Tr Nat):=
 match a8p ops.toList 0 .leaf with
 |some mk=>if a6D ops mk ops.toList 0&&P.follows .mixedOrders then some mk else none
 |none=>none
inductive Kd where
 |flat
 |read (t:Tr RV) (o:Oper)
 |alloc (G:Nat) (ob:OB)
 |eff (h:Hp) (nx:Nat)
structure Rec where
 dst:Option Tmp
 r:RV
 kd:Kd
def stE(M:Nat->Nat)(S:Hp)(nx:Nat)(L:Nat->Bool):List Rec->Nat × Hp × Nat
 |[]=>(0,S,nx)
 |q::l=>match q.kd with
  |.eff h n=>bif L l.length then(M l.length,h,n) else stE M S nx L l
  |_=>stE M S nx L l
def htA(L:Nat->Bool)(em:Nat)(S:Hp):List Rec->Hp
 |[]=>S
 |q::l=>match q.kd with
  |.alloc G ob=>bif L l.length && !em.testBit l.length then(htA L em S l).set G ob else htA L em S l
  |_=>htA L em S l
def a3T:List Rec->Option Nat
 |[]=>none
 |q::l=>match q.kd with
  |.eff _ _=>some l.length
  |_=>a3T l
def chained(m:Nat):Option Nat->Bool
 |none=>true
 |some e=>m.testBit e
def b1R(P:Program)(call:Q_)(ops:Array Oper)(mk:Tr Nat)(S0:Hp)(base n:Nat):List Oper->List Rec->Tr RV->Option (List Rec × Tr RV)
 |[],rv,t=>some (rv,t)
 |o::l,rv,t=>
  let M:=fun j=>(mk.get j).getD 0
  match a1b t ops o with
  |some false=>a5d t n o.dst (.lit undef) fun t'=>b1R P call ops mk S0 base n l (⟨o.dst,.lit undef,.flat⟩::rv) t'
  |some true=>match c1z P o with
   |.pure=>match a7V P t o with
    |some r=>a5d t n o.dst r fun t'=>b1R P call ops mk S0 base n l (⟨o.dst,r,.flat⟩::rv) t'
    |none=>none
   |.read=>match stE M S0 (base+ops.size) (fun _=>true) rv with
    |(em,S,nx)=>match a8Y P t (htA (fun a=>(M rv.length).testBit a) em S rv) o with
     |some r=>a5d t n o.dst r fun t'=>b1R P call ops mk S0 base n l (⟨o.dst,r,.read t o⟩::rv) t'
     |none=>none
   |.alloc=>match S0.get (base+rv.length) with
    |some _=>none
    |none=>X_ (base+rv.length) fun G=>match a5B P t G o with
     |some (r,ob)=>a5d t n o.dst r fun t'=>b1R P call ops mk S0 base n l (⟨o.dst,r,.alloc G ob⟩::rv) t'
     |none=>none
   |.eff=>match stE M S0 (base+ops.size) (fun _=>true) rv with
    |(em,S,nx)=>bif chained (M rv.length) (a3T rv) then(match b5g P call t (htA (fun a=>(M rv.length).testBit a) em S rv) nx o with
     |some (.ret r,h',nx')=>a5d t n o.dst r fun t'=>b1R P call ops mk S0 base n l (⟨o.dst,r,.eff h' nx'⟩::rv) t'
     |_=>none) else none
  |none=>none
def a1T(m:Nat):List Rec->Nat->Bool
 |[],_=>true
 |q::l,k=>bif Nat.beq l.length k then true else(match q.kd with
  |.eff _ _=>!m.testBit l.length
  |_=>true)&&a1T m l k
def a4F(P:Program)(t:Tr RV)(o:Oper)(h:Hp)(r:RV):Bool:=
 match a8Y P t h o with
 |some r'=>a1w r' r
 |none=>false
def a7i(P:Program)(M:Nat->Nat)(S0:Hp)(rv:List Rec)(i:Nat)(t:Tr RV)(o:Oper)(r:RV):List Rec->Bool
 |[]=>!a1T (M i) rv rv.length || a4F P t o (htA (fun a=>(M i).testBit a) 0 S0 rv) r
 |q::l=>(match q.kd with
  |.eff h _=>(M l.length).testBit i || !a1T (M i) rv l.length || a4F P t o (htA (fun a=>(M i).testBit a) (M l.length) h rv) r
  |_=>true)&&a7i P M S0 rv i t o r l
def a3V(P:Program)(M:Nat->Nat)(S0:Hp)(rv:List Rec):List Rec->Bool
 |[]=>true
 |q::l=>(match q.kd with
  |.read t o=>a7i P M S0 rv l.length t o q.r rv
  |_=>true)&&a3V P M S0 rv l
def a0E(P:Program)(call:Q_):a7J:=fun ops s=>
 match statOf P ops with
 |none=>none
 |some mk=>match b1R P call ops mk s.h s.nx s.n ops.toList [] s.tm with
  |none=>none
  |some (rv,t)=>
   let M:=fun j=>(mk.get j).getD 0
   bif a3V P M s.h rv rv then(match stE M s.h (s.nx+ops.size) (fun _=>true) rv with
    |(em,S,nx)=>match htA (fun _=>true) em S rv with
     |.leaf=>some (.normal,⟨t,s.n,.leaf,nx,s.ds⟩)
     |.node v l r=>some (.normal,⟨t,s.n,.node v l r,nx,s.ds⟩)) else none
theorem a4C{mk:Tr Nat}{i:Nat}:∀ {es:List Edge} {m m':Nat},a9z mk i es m=some m'->(∀a,m'.testBit a=true↔m.testBit a=true \/ ∃e∈es,Region.binds .any e=true/\(e.on=a\/((mk.get e.on).getD 0).testBit a=true)) /\ ∀e∈es,Region.binds .any e=true->e.on<i
 |[],m,m',h=>by
  cases h
  exact⟨fun a=>by simp,fun e he=>by cases he⟩
 |e::es,m,m',h=>by
  unfold a9z at h
  cases hb:Region.binds .any e with
  |false=>
   rw[hb,cond_false] at h
   obtain⟨h1,h2⟩:=a4C h
   refine⟨fun a=>?_,fun e' he' hb'=>?_⟩
   ·rw[h1 a]
    constructor
    ·rintro(h|⟨e',h3,h4⟩)
     ·exact .inl h
     ·exact .inr ⟨e',List.mem_cons_of_mem _ h3,h4⟩
    ·rintro(h|⟨e',h3,h4⟩)
     ·exact .inl h
     ·rcases List.mem_cons.1 h3 with rfl|h3
      ·rw[hb] at h4
       cases h4.1
      ·exact .inr ⟨e',h3,h4⟩
   ·rcases List.mem_cons.1 he' with rfl|he'
    ·rw[hb] at hb'
     cases hb'
    ·exact h2 e' he' hb'
  |true=>
   rw[hb,cond_true] at h
   cases hl:Nat.ble (e.on+1) i with
   |false=>rw[hl] at h;cases h
   |true=>
    rw[hl,cond_true] at h
    obtain⟨h1,h2⟩:=a4C h
    have hlt:=Nat.le_of_ble_eq_true hl
    refine⟨fun a=>?_,fun e' he' hb'=>?_⟩
    ·rw[h1 a,Nat.testBit_or,Nat.testBit_or,Nat.testBit_two_pow]
     simp only[Bool.or_eq_true,decide_eq_true_eq]
     constructor
     ·rintro(((h|h)|h)|⟨e',h3,h4⟩)
      ·exact .inl h
      ·exact .inr ⟨e,List.mem_cons_self,hb,.inl h⟩
      ·exact .inr ⟨e,List.mem_cons_self,hb,.inr h⟩
      ·exact .inr ⟨e',List.mem_cons_of_mem _ h3,h4⟩
     ·rintro(h|⟨e',h3,h4⟩)
      ·exact .inl (.inl (.inl h))
      ·rcases List.mem_cons.1 h3 with rfl|h3
       ·rcases h4.2 with h5|h5
        ·exact .inl (.inl (.inr h5))
        ·exact .inl (.inr h5)
       ·exact .inr ⟨e',h3,h4⟩
    ·rcases List.mem_cons.1 he' with rfl|he'
     ·exact hlt
     ·exact h2 e' he' hb'
theorem a5V:∀ {l:List Oper} {i:Nat} {mk mk':Tr Nat},a8p l i mk=some mk'->(∀j,j<i->mk'.get j=mk.get j) /\ ∀k o,l[k]? = some o -> ∃m,mk'.get (i+k)=some m/\(∀a,m.testBit a=true ↔ ∃e∈o.after.toList,Region.binds .any e=true/\(e.on=a\/((mk'.get e.on).getD 0).testBit a=true)) /\ ∀e∈o.after.toList,Region.binds .any e=true->e.on<i+k
 |[],i,mk,mk',h=>by
  cases h
  exact⟨fun j _=>rfl,fun k o hk=>by cases hk⟩
 |o::l,i,mk,mk',h=>by
  unfold a8p at h
  split at h<;>try cases h
  rename_i m hm
  obtain⟨h1,h2⟩:=a5V h
  obtain⟨h3,h4⟩:=a4C hm
  have hlow:∀j,j<i->mk'.get j=mk.get j:=fun j hj=>by
   rw[h1 j (by omega),Tr.a1q,if_neg (by omega)]
  refine⟨hlow,fun k o' hk=>?_⟩
  rcases k with _|k
  ·cases hk
   refine⟨m,?_,fun a=>?_,h4⟩
   ·rw[Nat.add_zero,h1 i (by omega),Tr.a1q,if_pos rfl]
   ·rw[h3 a]
    simp only[Nat.zero_testBit,Bool.false_eq_true,false_or]
    constructor
    ·rintro⟨e,e1,e2,e3⟩
     exact⟨e,e1,e2,by rw[hlow e.on (h4 e e1 e2)];exact e3⟩
    ·rintro⟨e,e1,e2,e3⟩
     exact⟨e,e1,e2,by rw[<-hlow e.on (h4 e e1 e2)];exact e3⟩
  ·have:=h2 k o' (by simpa using hk)
   rw[show i+(k+1)=i+1+k by omega]
   exact this
structure Masks(ops:Array Oper)(M:Nat->Nat):Prop where
 lt:∀j o,ops[j]? = some o -> ∀e∈o.after,Region.binds .any e=true->e.on<j
 iff:∀j o,ops[j]? = some o -> ∀a,(M j).testBit a=true ↔ ∃e∈o.after,Region.binds .any e=true/\(e.on=a\/(M e.on).testBit a=true)
 apart:∀i j p o,i<j->ops[i]? = some p->ops[j]? = some o->(M j).testBit i=true\/p.apart ops o=true
theorem a5l{ops:Array Oper}{m:Nat}{o:Oper}:∀ {l:List Oper} {i:Nat},a6M ops m o l i=true -> ∀k p,l[k]? = some p->m.testBit (i+k)=true\/p.apart ops o=true
 |[],i,h,k,p,hk=>by cases hk
 |q::l,i,h,k,p,hk=>by
  unfold a6M at h
  rw[Bool.and_eq_true,Bool.or_eq_true] at h
  rcases k with _|k
  ·cases hk
   exact h.1
  ·have:=a5l h.2 k p (by simpa using hk)
   rw[show i+(k+1)=i+1+k by omega]
   exact this
theorem a5g{ops:Array Oper}{mk:Tr Nat}:∀ {l:List Oper} {j:Nat},a6D ops mk l j=true -> ∀k o,l[k]? = some o -> ∀i p,i<j+k->ops[i]? = some p->((mk.get (j+k)).getD 0).testBit i=true\/p.apart ops o=true
 |[],j,h,k,o,hk=>by cases hk
 |q::l,j,h,k,o,hk=>by
  unfold a6D at h
  rw[Bool.and_eq_true] at h
  rcases k with _|k
  ·cases hk
   intro i p hi hp
   have:=a5l h.1 i p (by
    rw[List.getElem?_take,if_pos (by omega)]
    rw[Array.getElem?_toList]
    exact hp)
   rw[Nat.zero_add] at this
   exact this
  ·intro i p hi hp
   have:=a5g h.2 k o (by simpa using hk) i p (by omega) hp
   rw[show j+(k+1)=j+1+k by omega]
   exact this
theorem b8h{P:Program}{ops:Array Oper}{mk:Tr Nat}(h:statOf P ops=some mk):Masks ops (fun j=>(mk.get j).getD 0)/\P.follows .mixedOrders=true:=by
 unfold statOf at h
 split at h<;>try cases h
 rename_i mk' hm
 split at h<;>cases h
 rename_i hc
 rw[Bool.and_eq_true] at hc
 obtain⟨_,h2⟩:=a5V hm
 refine⟨⟨fun j o hj e he hb=>?_,fun j o hj a=>?_,fun i j p o hij hp ho=>?_⟩,hc.2⟩
 ·obtain⟨m,_,_,h5⟩:=h2 j o (by rw[Array.getElem?_toList];exact hj)
  have:=h5 e (by simpa using he) hb
  omega
 ·obtain⟨m,h3,h4,_⟩:=h2 j o (by rw[Array.getElem?_toList];exact hj)
  rw[Nat.zero_add] at h3
  show((mk.get j).getD 0).testBit a=true↔_
  rw[h3]
  simp only[Option.getD_some]
  rw[h4 a]
  constructor
  iterate 2
   ·rintro⟨e,e1,e2⟩
    exact⟨e,by simpa using e1,e2⟩
 ·have:=a5g hc.1 j o (by rw[Array.getElem?_toList];exact ho) i p (by omega) hp
  rw[Nat.zero_add] at this
  exact this
section
variable {ops:Array Oper} {M:Nat->Nat}
def Down(ops:Array Oper)(L:Nat->Bool):Prop:=∀j o,ops[j]? = some o->L j=true -> ∀e∈o.after,Region.binds .any e=true->L e.on=true
theorem Masks.lt'(hM:Masks ops M):∀(j:Nat) (o:Oper),ops[j]? = some o -> ∀a,(M j).testBit a=true->a<j:=by
 intro j
 induction j using Nat.strongRecOn with
 |_ j ih=>
  intro o ho a ha
  obtain⟨e,e1,e2,e3⟩:=(hM.iff j o ho a).1 ha
  have hlt:=hM.lt j o ho e e1 e2
  rcases e3 with rfl|e3
  ·exact hlt
  ·have hjn:=(Array.getElem?_eq_some_iff.1 ho).1
   have:=ih e.on hlt _ (Array.getElem?_eq_getElem (by omega)) a e3
   omega
theorem Masks.down(hM:Masks ops M){L:Nat->Bool}(hL:Down ops L):∀(j:Nat) (o:Oper),ops[j]? = some o->L j=true -> ∀a,(M j).testBit a=true->L a=true:=by
 intro j
 induction j using Nat.strongRecOn with
 |_ j ih=>
  intro o ho hj a ha
  obtain⟨e,e1,e2,e3⟩:=(hM.iff j o ho a).1 ha
  have hlt:=hM.lt j o ho e e1 e2
  have he:=hL j o ho hj e e1 e2
  rcases e3 with rfl|e3
  ·exact he
  ·have hjn:=(Array.getElem?_eq_some_iff.1 ho).1
   exact ih e.on hlt _ (Array.getElem?_eq_getElem (by omega)) he a e3
theorem Masks.down'(hM:Masks ops M){L:Nat->Bool}(hL:Down ops L){j:Nat}{o:Oper}(ho:ops[j]? = some o)(he:∀e∈o.after,Region.binds .any e=true->L e.on=true){a:Nat}(ha:(M j).testBit a=true):L a=true:=by
 obtain⟨e,e1,e2,e3⟩:=(hM.iff j o ho a).1 ha
 have hlt:=hM.lt j o ho e e1 e2
 rcases e3 with rfl|e3
 ·exact he e e1 e2
 ·have hjn:=(Array.getElem?_eq_some_iff.1 ho).1
  exact hM.down hL e.on _ (Array.getElem?_eq_getElem (by omega)) (he e e1 e2) a e3
theorem Masks.trans(hM:Masks ops M):∀(j:Nat) (o:Oper),ops[j]? = some o -> ∀b a,(M j).testBit b=true->(M b).testBit a=true->(M j).testBit a=true:=by
 intro j
 induction j using Nat.strongRecOn with
 |_ j ih=>
  intro o ho b a hb ha
  obtain⟨e,e1,e2,e3⟩:=(hM.iff j o ho b).1 hb
  have hlt:=hM.lt j o ho e e1 e2
  refine(hM.iff j o ho a).2 ⟨e,e1,e2,.inr ?_⟩
  rcases e3 with rfl|e3
  ·exact ha
  ·have hjn:=(Array.getElem?_eq_some_iff.1 ho).1
   exact ih e.on hlt _ (Array.getElem?_eq_getElem (by omega)) b a e3 ha
end
section
variable {c:Cx} {g g':Gm} {h h':Hp} {nx nx':Nat} {w w':World}
theorem RW.congr(hw:RW c g h nx w)(hh:∀G,h'.get G=h.get G):RW c g h' nx w:=by
 have hl:∀G e,Live h' G e->Live h G e:=fun G e ⟨ob,h1,h2⟩=>⟨ob,by rw[<-hh];exact h1,h2⟩
 exact⟨hw.os,hw.tape,hw.output,hw.size,hw.keep,hw.free,fun G hG=>by rw[hh];exact hw.dom G hG,fun G f hf=>by
  obtain⟨h1,h2,h3⟩:=hw.res G f hf
  exact⟨h1,by rw[hh];exact h2,h3⟩,fun G ob hg=>hw.ok G ob (by rw[<-hh];exact hg),fun G G' e e' q n n' h1 h2=>hw.sep G G' e e' q n n' (hl _ _ h1) (hl _ _ h2)⟩
theorem OK.ctx{c c':Cx}(he:c'.env=c.env){G:Nat}{ob:OB}(ho:OK c g w G ob)(hk:∀e q n,a4t ob e->g G e=some (q,n)->c.K q=none->c'.K q=none):OK c' g w G ob:=by
 cases ob with
 |cells elem z nxe mem=>
  refine⟨ho.1,fun e cs hm=>?_⟩
  obtain⟨q,n,h1,h2,h3⟩:=ho.2 e cs hm
  exact⟨q,n,h1,hk e q n ⟨cs,hm⟩ h1 h2,by rw[he];exact h3⟩
 |mp es ck=>
  obtain⟨h0,q,arr,h1,h2,h3,h4,h5⟩:=ho
  exact⟨h0,q,arr,h1,hk 0 q 0 rfl h1 h2,h3,h4,by rw[he];exact h5⟩
 |si s rest pos=>
  obtain⟨h0,hs,hr,q,h1,h2,h3⟩:=ho
  exact⟨h0,hs,hr,q,h1,hk 0 q 0 rfl h1 h2,h3⟩
 |ot b=>
  obtain⟨h0,q,o,h1,h2,h3,h4⟩:=ho
  exact⟨h0,q,o,h1,hk 0 q 0 rfl h1 h2,h3,by rw[he];exact h4⟩
theorem RW.c1r(hw:RW c g h nx w){F':Nat->Option (Nat->Option (Nat × Nat))}(hF:∀x f,F' x=some f->c.F x=some f):RW {c with F:=F'} g h nx w:=
 ⟨hw.os,hw.tape,hw.output,hw.size,hw.keep,hw.free,hw.dom,fun G f hf=>hw.res G f (hF G f hf),fun G ob hg=>(hw.ok G ob hg).ctx rfl fun _ _ _ _ _ hk=>hk,hw.sep⟩
open Classical in
theorem RW.aside(hw:RW c g h nx w)(z:Nat->Bool){h2:Hp}(hh2:∀G,h2.get G=if z G=true then none else h.get G)(hz:∀G,z G=true->h.get G ≠ none)(hznx:∀G,z G=true->G<nx) :
  ∃c2:Cx,c2.env=c.env/\RW c2 g h2 nx w/\(∀G,z G=true->c2.F G=some (g G))/\(∀G,z G=false->c2.F G=c.F G) /\ ∀g' h' nx' w',Ext g g'->RW c2 g' h' nx' w' -> ∀h3:Hp,(∀G,h3.get G=if z G=true then h.get G else h'.get G)->RW c g' h3 nx' w':=by
 let B:Nat->Prop:=fun q=>∃G e n,z G=true/\Live h G e/\g G e=some (q,n)
 have htab:∀b l,b9J b=some l -> ∃t f,(if B b then w.heap[b]? else c.K b)=some (Obj.cells l.toArray t f):=fun b l hb=>by
  obtain⟨t,f,h1⟩:=c.tab b l hb
  refine⟨t,f,?_⟩
  by_cases hBb:B b
  ·rw[if_pos hBb]
   exact hw.keep b _ h1
  ·rw[if_neg hBb]
   exact h1
 have hkk:∀q o,c.K q=some o->(if B q then w.heap[q]? else c.K q)=some o:=fun q o hq=>by
  by_cases hBq:B q
  ·rw[if_pos hBq]
   exact hw.keep q o hq
  ·rw[if_neg hBq]
   exact hq
 let c2:Cx:={w0:=c.w0,K:=fun q=>if B q then w.heap[q]? else c.K q,F:=fun G=>if z G=true then some (g G) else c.F G,env:=c.env,tab:=htab,envp:=b7S hkk c.envp}
 have hB:∀q,B q->c.K q=none/\q<w.heap.size:=fun q ⟨G,e,n,_,h1,h2⟩=>hw.a1r h1 h2
 have hlive2:∀G e,Live h2 G e->z G=false/\Live h G e:=fun G e ⟨ob,h1,h3⟩=>by
  rw[hh2] at h1
  cases hzG:z G with
  |true=>rw[hzG] at h1;cases h1
  |false=>rw[hzG] at h1;exact⟨rfl,ob,h1,h3⟩
 have hnB:∀G e q n,z G=false->Live h G e->g G e=some (q,n) -> ¬B q:=fun G e q n hzG hl hq ⟨G',e',n',h1,h2,h3⟩=>by
  have:=hw.sep _ _ _ _ _ _ _ hl h2 hq h3
  subst this
  rw[hzG] at h1
  cases h1
 refine⟨c2,rfl,⟨hw.os,hw.tape,hw.output,hw.size,fun q o hq=>?_,hw.free,fun G hG=>by rw[hh2];split;rfl;exact hw.dom G hG,fun x f hf=>?_,fun G ob hg=>?_,fun A A' e e' q n n' h1 h3=>hw.sep A A' e e' q n n' (hlive2 _ _ h1).2 (hlive2 _ _ h3).2⟩,fun G hG=>if_pos hG,fun G hG=>if_neg (by rw[hG];simp),?_⟩
 ·by_cases hq':B q
  ·have:(if B q then w.heap[q]? else c.K q)=some o:=hq
   rw[if_pos hq'] at this
   exact this
  ·have:(if B q then w.heap[q]? else c.K q)=some o:=hq
   rw[if_neg hq'] at this
   exact hw.keep q o this
 ·have hf':(if z x=true then some (g x) else c.F x)=some f:=hf
  cases hzx:z x with
  |true=>
   rw[if_pos hzx] at hf'
   cases hf'
   exact⟨hznx x hzx,by rw[hh2,if_pos hzx],fun e=>rfl⟩
  |false=>
   rw[if_neg (by rw[hzx];simp)] at hf'
   obtain⟨h1,h3,h4⟩:=hw.res x f hf'
   exact⟨h1,by rw[hh2,if_neg (by rw[hzx];simp)];exact h3,h4⟩
 ·have hl:z G=false/\h.get G=some ob:=by
   rw[hh2] at hg
   cases hzG:z G with
   |true=>rw[hzG] at hg;cases hg
   |false=>rw[hzG] at hg;exact⟨rfl,hg⟩
  exact(hw.ok G ob hl.2).ctx (c:=c) (c':=c2) rfl fun e q n he hq hk=>by
   show(if B q then w.heap[q]? else c.K q)=none
   rw[if_neg (hnB G e q n hl.1 ⟨ob,hl.2,he⟩ hq)]
   exact hk
 ·intro g' h' nx' w' hext hw' h3 hh3
  have hres:∀G,z G=true->h'.get G=none /\ ∀e,g' G e=g G e:=fun G hG=>(hw'.res G (g G) (if_pos hG)).2
  have hblk:∀q,B q->w'.heap[q]? = w.heap[q]? := fun q hq=>by
   have hlt:=(hB q hq).2
   have:c2.K q=some w.heap[q]:=by
    show(if B q then w.heap[q]? else c.K q)=_
    rw[if_pos hq,Array.getElem?_eq_getElem hlt]
   rw[hw'.keep q _ this,Array.getElem?_eq_getElem hlt]
  have hlive3:∀G e,Live h3 G e->(z G=true/\Live h G e)\/(z G=false/\Live h' G e):=fun G e ⟨ob,h1,h4⟩=>by
   rw[hh3] at h1
   cases hzG:z G with
   |true=>rw[if_pos hzG] at h1;exact .inl ⟨rfl,ob,h1,h4⟩
   |false=>rw[if_neg (by rw[hzG];simp)] at h1;exact .inr ⟨rfl,ob,h1,h4⟩
  have hnK:∀G e q n,Live h' G e->g' G e=some (q,n) -> ¬B q:=fun G e q n hl hq hb=>by
   have hlt:=(hB q hb).2
   have h1:=(hw'.a1r hl hq).1
   have h4:c2.K q=some w.heap[q]:=by
    show(if B q then w.heap[q]? else c.K q)=_
    rw[if_pos hb,Array.getElem?_eq_getElem hlt]
   rw[h4] at h1
   cases h1
  refine⟨hw'.os,hw'.tape,hw'.output,hw'.size,fun q o hq=>?_,hw'.free,fun G hG=>?_,fun x f hf=>?_,fun G ob hg=>?_,?_⟩
  ·refine hw'.keep q o ?_
   show(if B q then w.heap[q]? else c.K q)=some o
   rw[if_neg (fun hb=>by rw[(hB q hb).1] at hq;cases hq)]
   exact hq
  ·rw[hh3]
   cases hzG:z G with
   |true=>
    have:=(hw'.res G (g G) (if_pos hzG)).1
    omega
   |false=>
    rw[if_neg (by simp)]
    exact hw'.dom G hG
  ·have hzx:z x=false:=by
    cases hzx:z x with
    |false=>rfl
    |true=>exact absurd (hw.res x f hf).2.1 (hz x hzx)
   have hf2:c2.F x=some f:=by
    show(if z x=true then some (g x) else c.F x)=some f
    rw[if_neg (by rw[hzx];simp)]
    exact hf
   obtain⟨h1,h4,h5⟩:=hw'.res x f hf2
   exact⟨h1,by rw[hh3,if_neg (by rw[hzx];simp)];exact h4,h5⟩
  ·rw[hh3] at hg
   cases hzG:z G with
   |true=>
    rw[if_pos hzG] at hg
    exact(hw.ok G ob hg).mono hext (fun e=>(hres G hzG).2 e) fun e q n he hq=>hblk q ⟨G,e,n,hzG,⟨ob,hg,he⟩,hq⟩
   |false=>
    rw[if_neg (by rw[hzG];simp)] at hg
    refine(hw'.ok G ob hg).ctx (c:=c2) (c':=c) rfl fun e q n he hq hk=>?_
    have:(if B q then w.heap[q]? else c.K q)=none:=hk
    rw[if_neg (hnK G e q n ⟨ob,hg,he⟩ hq)] at this
    exact this
  ·intro A A' e e' q n n' h1 h4 k1 k2
   rcases hlive3 A e h1 with⟨z1,l1⟩|⟨z1,l1⟩<;>rcases hlive3 A' e' h4 with⟨z2,l2⟩|⟨z2,l2⟩
   ·rw[(hres A z1).2] at k1
    rw[(hres A' z2).2] at k2
    exact hw.sep A A' e e' q n n' l1 l2 k1 k2
   ·rw[(hres A z1).2] at k1
    exact absurd ⟨A,e,n,z1,l1,k1⟩ (hnK A' e' q n' l2 k2)
   ·rw[(hres A' z2).2] at k2
    exact absurd ⟨A',e',n',z2,l2,k2⟩ (hnK A e q n l1 k1)
   ·exact hw'.sep A A' e e' q n n' l1 l2 k1 k2
end
end Go.Proofs.YtlimlmjljjmcpaaGreatDoor.Ax
namespace Go.Proofs.YtlimlmjljjmcpaaGreatDoor.Ax
open Go.RowKit
set_option linter.unusedVariables false
set_option linter.unusedSimpArgs false
theorem a4v{a b:Nat}:Nat.beq a b=true↔a=b:=by rw[Nat.beq_eq]
theorem b8M{u v:Value}(h:eqV u v=true):u=v:=by
 unfold eqV at h
 split at h
 ·rw[eq_of_beq h]
 iterate 2
  ·rw[Bool.and_eq_true] at h
   have h1:=h.1
   split at h1
   ·rename_i e
    rw[e,a4v.1 h.2]
   ·cases h1
 iterate 5
  ·rfl
 ·rename_i f a b f' c d
  rw[Bool.and_eq_true] at h
  have h2:=h.2
  split at h2
  ·rename_i k1 k2 k3 k4
   have ea:a=#[]:=by rw[<-Array.toArray_toList (xs:=a),k1]
   have eb:b=#[]:=by rw[<-Array.toArray_toList (xs:=b),k2]
   have ec:c=#[]:=by rw[<-Array.toArray_toList (xs:=c),k3]
   have ed:d=#[]:=by rw[<-Array.toArray_toList (xs:=d),k4]
   rw[a4v.1 h.1,ea,eb,ec,ed]
  ·cases h2
 ·rename_i a b
  split at h
  ·rename_i k1 k2
   have ea:a=#[]:=by rw[<-Array.toArray_toList (xs:=a),k1]
   have eb:b=#[]:=by rw[<-Array.toArray_toList (xs:=b),k2]
   rw[ea,eb]
  ·cases h
 ·cases h
mutual
theorem a6m:∀ {r s:RV},a1w r s=true->r=s
 |.str l,s,h=>by
  cases s<;>try(simp[a1w] at h;done)
  simp only[a1w] at h
  rw[a2M.1 h]
 |.opq i,s,h=>by
  cases s<;>try(simp[a1w] at h;done)
  simp only[a1w] at h
  rw[a4v.1 h]
 |.ptr a b c,s,h=>by
  cases s<;>try(simp[a1w] at h;done)
  simp only[a1w,Bool.and_eq_true] at h
  rw[a4v.1 h.1.1,a4v.1 h.1.2,a4v.1 h.2]
 |.sl a b c x y,s,h=>by
  cases s<;>try(simp[a1w] at h;done)
  simp only[a1w,Bool.and_eq_true] at h
  rw[a4v.1 h.1.1.1.1,a4v.1 h.1.1.1.2,a4v.1 h.1.1.2,a4v.1 h.1.2,a4v.1 h.2]
 |.s0 a b c,s,h=>by
  cases s<;>try(simp[a1w] at h;done)
  simp only[a1w,Bool.and_eq_true] at h
  rw[a4v.1 h.1.1,a4v.1 h.1.2,a4v.1 h.2]
 |.se,s,h=>by
  cases s<;>first|rfl|(simp[a1w] at h;done)
 |.yld a,s,h=>by
  cases s<;>(simp[a1w] at h;done)
 |.mp a,s,h=>by
  cases s<;>try(simp[a1w] at h;done)
  simp only[a1w] at h
  rw[a4v.1 h]
 |.agg l,s,h=>by
  cases s<;>try(simp[a1w] at h;done)
  simp only[a1w] at h
  rw[a3i h]
 |.tup l,s,h=>by
  cases s<;>try(simp[a1w] at h;done)
  simp only[a1w] at h
  rw[a3i h]
 |.ifc t r,s,h=>by
  cases s<;>try(simp[a1w] at h;done)
  simp only[a1w,Bool.and_eq_true] at h
  rw[a4v.1 h.1,a6m h.2]
 |.clo f a l,s,h=>by
  cases s<;>try(simp[a1w] at h;done)
  simp only[a1w,Bool.and_eq_true] at h
  rw[a4v.1 h.1.1,a3i h.1.2,a3i h.2]
 |.lit v,s,h=>by
  cases s<;>try(simp[a1w] at h;done)
  simp only[a1w] at h
  rw[b8M h]
theorem a3i:∀ {l m:List RV},a4B l m=true->l=m
 |[],[],_=>rfl
 |[],_::_,h=>by simp[a4B] at h
 |_::_,[],h=>by simp[a4B] at h
 |r::l,s::m,h=>by
  simp only[a4B,Bool.and_eq_true] at h
  rw[a6m h.1,a3i h.2]
end
def cvL(t0:Nat->RV)(L:Nat->Bool):List Rec->Nat->RV
 |[],x=>t0 x
 |q::l,x=>if L l.length=true/\q.dst=some x then q.r else cvL t0 L l x
def K_:List Rec->Nat->Option OB
 |[],_=>none
 |q::l,k=>if l.length=k then(match q.kd with
  |.alloc _ ob=>some ob
  |_=>none) else K_ l k
def O_:List Rec->Nat->Bool
 |[],_=>false
 |q::l,k=>if l.length=k then(match q.kd with
  |.eff _ _=>true
  |_=>false) else O_ l k
def a3j(ops:Array Oper)(k:Nat):Option Tmp:=(ops[k]?).bind (·.dst)
def all:Nat->Bool:=fun _=>true
section
variable {P:Program} {call:Q_} {ops:Array Oper} {M:Nat->Nat} {S0:Hp} {base n:Nat} {t0:Nat->RV}
inductive KdOK(P:Program)(call:Q_)(ops:Array Oper)(M:Nat->Nat)(S0:Hp)(base:Nat)(o:Oper)(t:Tr RV)(l:List Rec)(q:Rec):Prop
 |skip (h1:a1b t ops o=some false) (h2:q.r=.lit undef) (h3:q.kd=.flat)
 |pure (h1:a1b t ops o=some true) (h2:a7V P t o=some q.r) (h3:q.kd=.flat)
 |read (h1:a1b t ops o=some true) (h3:q.kd=.read t o)
 |alloc (ob:OB) (h1:a1b t ops o=some true) (h2:S0.get (base+l.length)=none) (h3:a5B P t (base+l.length) o=some (q.r,ob)) (h4:q.kd=.alloc (base+l.length) ob)
 |eff (h':Hp) (nx':Nat) (h1:a1b t ops o=some true) (h2:∀e,a3T l=some e->(M l.length).testBit e=true) (h3:b5g P call t (htA (fun a=>(M l.length).testBit a) (stE M S0 (base+ops.size) all l).1 (stE M S0 (base+ops.size) all l).2.1 l) (stE M S0 (base+ops.size) all l).2.2 o=some (.ret q.r,h',nx')) (h4:q.kd=.eff h' nx')
def GoodAt(P:Program)(call:Q_)(ops:Array Oper)(M:Nat->Nat)(S0:Hp)(base n:Nat)(t0:Nat->RV)(l:List Rec)(q:Rec):Prop:=
 ∃o t,ops[l.length]? = some o/\q.dst=o.dst/\(∀d,q.dst=some d->d<n)/\(∀x,(t.get x).getD (.lit undef)=cvL t0 all l x)/\KdOK P call ops M S0 base o t l q
def Good(P:Program)(call:Q_)(ops:Array Oper)(M:Nat->Nat)(S0:Hp)(base n:Nat)(t0:Nat->RV):List Rec->Prop
 |[]=>True
 |q::l=>GoodAt P call ops M S0 base n t0 l q/\Good P call ops M S0 base n t0 l
theorem b8v{β:Type}{t:Tr RV}{d:Option Tmp}{r:RV}{k:Tr RV->Option β}{y:β}{l:List Rec}{kd:Kd}(hp:a5d t n d r k=some y)(ht:∀x,(t.get x).getD (.lit undef)=cvL t0 all l x):∃t',k t'=some y/\(∀x,(t'.get x).getD (.lit undef)=cvL t0 all (⟨d,r,kd⟩::l) x) /\ ∀d',d=some d'->d'<n:=by
 unfold a5d at hp
 split at hp
 ·refine⟨t,hp,fun x=>?_,fun d' hd=>by cases hd⟩
  rw[ht x]
  simp[cvL]
 ·rename_i d
  cases hb:Nat.ble (d+1) n with
  |false=>rw[hb] at hp;cases hp
  |true=>
   rw[hb,cond_true,a0U] at hp
   refine⟨_,hp,fun x=>?_,fun d' hd=>by cases hd;exact Nat.le_of_ble_eq_true hb⟩
   rw[Tr.a1q]
   unfold cvL
   by_cases hx:x=d
   ·subst hx
    rw[if_pos rfl,if_pos ⟨rfl,rfl⟩]
    rfl
   ·rw[if_neg hx,if_neg (fun hh=>hx (Option.some.inj hh.2).symm)]
    exact ht x
theorem b4B{mk:Tr Nat}(hM:M=fun j=>(mk.get j).getD 0):∀(l:List Oper) (rv rvF:List Rec) (t tF:Tr RV),b1R P call ops mk S0 base n l rv t=some (rvF,tF)->(∀k o,l[k]? = some o->ops[rv.length+k]? = some o)->Good P call ops M S0 base n t0 rv->(∀x,(t.get x).getD (.lit undef)=cvL t0 all rv x) ->
  Good P call ops M S0 base n t0 rvF/\(∀x,(tF.get x).getD (.lit undef)=cvL t0 all rvF x)/\rvF.length=rv.length+l.length
 |[],rv,rvF,t,tF,hg,hl,hr,ht=>by
  cases hg
  exact⟨hr,ht,rfl⟩
 |o::l,rv,rvF,t,tF,hg,hl,hr,ht=>by
  have ho:ops[rv.length]? = some o:=hl 0 o rfl
  have next:∀ {r:RV} {kd:Kd},a5d t n o.dst r (fun t'=>b1R P call ops mk S0 base n l (⟨o.dst,r,kd⟩::rv) t')=some (rvF,tF)->(KdOK P call ops M S0 base o t rv ⟨o.dst,r,kd⟩)->Good P call ops M S0 base n t0 rvF/\(∀x,(tF.get x).getD (.lit undef)=cvL t0 all rvF x)/\rvF.length=rv.length+(l.length+1):=fun {r kd} hp hk=>by
   obtain⟨t',h1,h2,h3⟩:=b8v (kd:=kd) hp ht
   obtain⟨a,b,e⟩:=b4B hM l _ rvF t' tF h1 (fun k o' hk'=>by
    have:=hl (k+1) o' (by simpa using hk')
    rw[List.length_cons,show rv.length+1+k=rv.length+(k+1) by omega]
    exact this) ⟨⟨o,t,ho,rfl,h3,ht,hk⟩,hr⟩ h2
   exact⟨a,b,by rw[e,List.length_cons];omega⟩
  unfold b1R at hg
  dsimp only at hg
  split at hg<;>try cases hg
  ·rename_i hw
   exact next hg (.skip hw rfl rfl)
  ·rename_i hw
   split at hg
   ·split at hg<;>try cases hg
    rename_i r hp
    exact next hg (.pure hw hp rfl)
   ·split at hg<;>try cases hg
    rename_i r hp
    exact next hg (.read hw rfl)
   ·split at hg<;>try cases hg
    rename_i hnone
    rw[J_] at hg
    split at hg<;>try cases hg
    rename_i r ob hp
    exact next hg (.alloc ob hw hnone hp rfl)
   ·cases hb:chained ((mk.get rv.length).getD 0) (a3T rv) with
    |false=>rw[hb] at hg;cases hg
    |true=>
     rw[hb,cond_true] at hg
     split at hg<;>try cases hg
     rename_i r h' nx' hp
     refine next hg (.eff h' nx' hw (fun e he=>?_) ?_ rfl)
     ·rw[he] at hb
      rw[hM]
      exact hb
     ·rw[hM]
      exact hp
theorem Good.split:∀ {rv:List Rec},Good P call ops M S0 base n t0 rv -> ∀ {i:Nat},i<rv.length -> ∃pre q l,rv=pre++q::l/\l.length=i/\GoodAt P call ops M S0 base n t0 l q/\Good P call ops M S0 base n t0 l
 |[],_,i,hi=>absurd hi (by simp)
 |q::l,hg,i,hi=>by
  rcases Nat.lt_or_ge i l.length with h|h
  ·obtain⟨pre,q',l',h1,h2,h3,h4⟩:=Good.split hg.2 h
   exact⟨q::pre,q',l',by rw[h1];rfl,h2,h3,h4⟩
  ·have:i=l.length:=by simp at hi;omega
   exact⟨[],q,l,rfl,this.symm,hg.1,hg.2⟩
theorem a6n{L L':Nat->Bool}{x:Nat}:∀ {rv:List Rec},Good P call ops M S0 base n t0 rv->(∀k,k<rv.length->a3j ops k=some x->L k=L' k)->cvL t0 L rv x=cvL t0 L' rv x
 |[],_,_=>rfl
 |q::l,hg,h=>by
  have ih:=a6n (L:=L) (L':=L') hg.2 fun k hk=>h k (by simp;omega)
  obtain⟨o,t,h1,h2,_⟩:=hg.1
  unfold cvL
  rw[ih]
  by_cases hd:q.dst=some x
  ·have:a3j ops l.length=some x:=by simp[a3j,h1,<-h2,hd]
   rw[h l.length (by simp) this]
  ·rw[if_neg (fun hh=>hd hh.2),if_neg (fun hh=>hd hh.2)]
theorem b2a{L:Nat->Bool}{x:Nat}:∀ {pre l:List Rec},Good P call ops M S0 base n t0 (pre++l)->(∀k,l.length<=k->k<(pre++l).length->a3j ops k=some x->L k=false)->cvL t0 L (pre++l) x=cvL t0 L l x
 |[],l,_,_=>rfl
 |q::pre,l,hg,h=>by
  have ih:=b2a (L:=L) hg.2 fun k hk hk2=>h k hk (by simp at hk2 |-;omega)
  obtain⟨o,t,h1,h2,_⟩:=hg.1
  show(if L (pre++l).length=true/\q.dst=some x then q.r else cvL t0 L (pre++l) x)=_
  rw[ih]
  rw[if_neg]
  rintro⟨a,b⟩
  have h1':ops[(pre++l).length]? = some o:=h1
  have:a3j ops (pre++l).length=some x:=by
   unfold a3j
   rw[h1',Option.bind_some,<-h2]
   exact b
  rw[h (pre++l).length (by simp) (by simp) this] at a
  cases a
theorem a6b{L L':Nat->Bool}{nx0:Nat}:∀ {rv:List Rec},(∀k,k<rv.length->O_ rv k=true->L k=L' k)->stE M S0 nx0 L rv=stE M S0 nx0 L' rv
 |[],_=>rfl
 |q::l,h=>by
  have ih:=a6b (L:=L) (L':=L') (nx0:=nx0) (rv:=l) fun k hk he=>h k (by simp;omega) (by
   unfold O_
   rw[if_neg (by omega)]
   exact he)
  unfold stE
  split
  ·rename_i h' n' hk
   rw[h l.length (by simp) (by unfold O_;rw[if_pos rfl,hk])]
   cases L' l.length<;>simp only[cond_true,cond_false,ih]
  ·exact ih
theorem a6G{L:Nat->Bool}{nx0:Nat}:∀ {pre l:List Rec},(∀k,l.length<=k->k<(pre++l).length->O_ (pre++l) k=true->L k=false)->stE M S0 nx0 L (pre++l)=stE M S0 nx0 L l
 |[],l,_=>rfl
 |q::pre,l,h=>by
  have ih:=a6G (L:=L) (nx0:=nx0) (pre:=pre) (l:=l) fun k hk hk2 he=>h k hk (by simp at hk2 |-;omega) (by
   show O_ (q::(pre++l)) k=true
   unfold O_
   rw[if_neg (by omega)]
   exact he)
  show stE M S0 nx0 L (q::(pre++l))=_
  conv=>lhs;unfold stE
  split
  ·rename_i h' n' hk
   have:L (pre++l).length=false:=h (pre++l).length (by simp) (by simp) (by
    show O_ (q::(pre++l)) _=true
    unfold O_
    rw[if_pos rfl,hk])
   rw[this,cond_false]
   exact ih
  ·exact ih
theorem a1U:∀ {rv:List Rec} {k:Nat},O_ rv k=true->k<rv.length
 |[],k,h=>by cases h
 |q::l,k,h=>by
  unfold O_ at h
  split at h
  ·simp;omega
  ·have:=a1U h
   simp;omega
theorem a4w:∀ {rv:List Rec} {k:Nat} {ob:OB},K_ rv k=some ob->k<rv.length
 |[],k,ob,h=>by cases h
 |q::l,k,ob,h=>by
  unfold K_ at h
  split at h
  ·simp;omega
  ·have:=a4w h
   simp;omega
theorem a5P:∀ {pre l:List Rec} {k:Nat},k<l.length->O_ (pre++l) k=O_ l k
 |[],l,k,_=>rfl
 |q::pre,l,k,h=>by
  show O_ (q::(pre++l)) k=_
  conv=>lhs;unfold O_
  rw[if_neg (by simp;omega)]
  exact a5P h
theorem a7l:∀ {pre l:List Rec} {k:Nat},k<l.length->K_ (pre++l) k=K_ l k
 |[],l,k,_=>rfl
 |q::pre,l,k,h=>by
  show K_ (q::(pre++l)) k=_
  conv=>lhs;unfold K_
  rw[if_neg (by simp;omega)]
  exact a7l h
theorem b5C{pre l:List Rec}{q:Rec}:O_ (pre++q::l) l.length=(match q.kd with
  |.eff _ _=>true
  |_=>false):=by
 rw[a5P (by simp)]
 unfold O_
 rw[if_pos rfl]
theorem alloc_at{pre l:List Rec}{q:Rec}:K_ (pre++q::l) l.length=(match q.kd with
  |.alloc _ ob=>some ob
  |_=>none):=by
 rw[a7l (by simp)]
 unfold K_
 rw[if_pos rfl]
theorem a1v{L:Nat->Bool}{em:Nat}{S:Hp}:∀ {rv:List Rec},Good P call ops M S0 base n t0 rv -> ∀G,(htA L em S rv).get G=match(if base<=G/\L (G - base)=true/\em.testBit (G - base)=false then K_ rv (G - base) else none) with
  |some ob=>some ob
  |none=>S.get G
 |[],_,G=>by
  have:(if base<=G/\L (G - base)=true/\em.testBit (G - base)=false then K_ [] (G - base) else none)=none:=by
   split<;>rfl
  rw[this]
  rfl
 |q::l,hg,G=>by
  have ih:=a1v (L:=L) (em:=em) (S:=S) hg.2 G
  obtain⟨o,t,h1,h2,_,_,hk⟩:=hg.1
  unfold htA
  have low:base+l.length ≠ G->(∀G' ob,q.kd=.alloc G' ob->True)->(match(if base<=G/\L (G - base)=true/\em.testBit (G - base)=false then K_ (q::l) (G - base) else none) with
    |some ob=>some ob
    |none=>S.get G)=(match(if base<=G/\L (G - base)=true/\em.testBit (G - base)=false then K_ l (G - base) else none) with
    |some ob=>some ob
    |none=>S.get G):=fun hne _=>by
   by_cases hc:base<=G/\L (G - base)=true/\em.testBit (G - base)=false
   ·rw[if_pos hc,if_pos hc]
    conv=>lhs;unfold K_
    rw[if_neg (by omega)]
   ·rw[if_neg hc,if_neg hc]
  have flat:(∀G' ob,q.kd ≠ .alloc G' ob)->(match(if base<=G/\L (G - base)=true/\em.testBit (G - base)=false then K_ (q::l) (G - base) else none) with
    |some ob=>some ob
    |none=>S.get G)=(match(if base<=G/\L (G - base)=true/\em.testBit (G - base)=false then K_ l (G - base) else none) with
    |some ob=>some ob
    |none=>S.get G):=fun hna=>by
   by_cases hne:base+l.length=G
   ·have e:G - base=l.length:=by omega
    have a1:K_ (q::l) (G - base)=none:=by
     unfold K_
     rw[if_pos e.symm]
     split
     ·rename_i G' ob hkd
      exact absurd hkd (hna _ _)
     ·rfl
    have a2:K_ l (G - base)=none:=by
     cases ha:K_ l (G - base) with
     |none=>rfl
     |some ob=>
      have:=a4w ha
      omega
    rw[a1,a2]
   ·exact low hne fun _ _ _=>trivial
  split
  ·rename_i G' ob hkd
   have hG':G'=base+l.length:=by
    cases hk with
    |skip _ _ h=>rw[hkd] at h;cases h
    |pure _ _ h=>rw[hkd] at h;cases h
    |read _ h=>rw[hkd] at h;cases h
    |alloc ob' _ _ _ h=>rw[hkd] at h;cases h;rfl
    |eff _ _ _ _ _ h=>rw[hkd] at h;cases h
   subst hG'
   cases hsel:L l.length && !em.testBit l.length with
   |true=>
    rw[cond_true,Tr.a1q]
    rw[Bool.and_eq_true,Bool.not_eq_true'] at hsel
    by_cases hne:G=base+l.length
    ·subst hne
     have e:base+l.length - base=l.length:=by omega
     rw[if_pos rfl,if_pos ⟨by omega,by rw[e];exact hsel.1,by rw[e];exact hsel.2⟩]
     unfold K_
     rw[if_pos e.symm,hkd]
    ·rw[if_neg hne,low (fun hh=>hne hh.symm) fun _ _ _=>trivial]
     exact ih
   |false=>
    rw[cond_false]
    by_cases hne:G=base+l.length
    ·subst hne
     have e:base+l.length - base=l.length:=by omega
     have hnc:¬(base<=base+l.length/\L (base+l.length - base)=true/\em.testBit (base+l.length - base)=false):=by
      rw[e]
      rintro⟨_,a,b⟩
      rw[a,b] at hsel
      cases hsel
     rw[if_neg hnc]
     rw[if_neg hnc] at ih
     exact ih
    ·rw[low (fun hh=>hne hh.symm) fun _ _ _=>trivial]
     exact ih
  ·rename_i hna
   rw[flat hna]
   exact ih
end
end Go.Proofs.YtlimlmjljjmcpaaGreatDoor.Ax
namespace Go.Proofs.YtlimlmjljjmcpaaGreatDoor.Ax
open Go.RowKit
set_option linter.unusedVariables false
set_option linter.unusedSimpArgs false
section
variable {P:Program} {call:Q_} {ops:Array Oper} {M:Nat->Nat} {S0:Hp} {base n:Nat} {t0:Nat->RV} {c:Cx} {rvF:List Rec}
theorem a2t{g:Gm}{env:Nat->Value}{t:Tr RV}{a:Act}{o:Oper}{b:Bool}(hw:a1b t ops o=some b)(hT:∀d∈o.looksAt ops,R g env ((t.get d).getD (.lit undef)) (a.tmps.getD d undef)):Region.wanted o (yielded ops a.tmps)=b:=by
 unfold a1b at hw
 unfold Region.wanted
 split at hw
 ·rename_i hg
  cases hw
  rw[hg]
 ·rename_i j want hg
  rw[hg]
  simp only
  unfold yielded
  split at hw
  ·rename_i hd
   cases hw
   rw[hd]
   rfl
  ·rename_i d hd
   rw[hd]
   simp only[Option.bind_some]
   have hr:=hT d (by simp[Oper.looksAt,hg,hd])
   have hx:∀v:Value,a.tmps.getD d undef=v->(a.tmps[d]? = none/\v=undef)\/a.tmps[d]? = some v:=fun v hv=>by
    cases hx:a.tmps[d]? with
    |none=>
     rw[Array.getD_eq_getD_getElem?,hx] at hv
     exact .inl ⟨rfl,hv.symm⟩
    |some u=>
     have:a.tmps.getD d undef=u:=by simp[hx]
     rw[this] at hv
     exact .inr (by rw[hv])
   split at hw<;>try cases hw
   ·rename_i ht
    rw[ht] at hr
    generalize hv:a.tmps.getD d undef=v at hr
    cases hr
    rcases hx _ hv with⟨h1,_⟩|h1<;>rw[h1]<;>rfl
   ·rename_i bb ht
    rw[ht] at hr
    generalize hv:a.tmps.getD d undef=v at hr
    cases hr
    rcases hx _ hv with⟨h1,h2⟩|h1
    ·cases h2
    ·rw[h1]
     cases bb<;>cases want<;>cases hw<;>rfl
   ·rename_i vs ht
    rw[ht] at hr
    generalize hv:a.tmps.getD d undef=v at hr
    cases hr
    rcases hx _ hv with⟨h1,_⟩|h1<;>rw[h1]<;>rfl
theorem b5c{g:Gm}{env:Nat->Value}{t:Tr RV}{a:Act}{o:Oper}(hT:∀d∈o.looksAt ops,R g env ((t.get d).getD (.lit undef)) (a.tmps.getD d undef))(x:Operand)(hx:x∈o.op.operands):R g env (p_ t x) (a.eval x):=by
 cases x with
 |tmp i=>
  have:=hT i (List.mem_append_left _ (List.mem_filterMap.2 ⟨.tmp i,by simpa using hx,rfl⟩))
  show R g env (match t.get i with|some r=>r|none=>.lit undef) (a.tmps.getD i undef)
  cases ht:t.get i with
  |none=>rw[ht] at this;exact this
  |some r=>rw[ht] at this;exact this
 |const v=>exact a4A _ _ _
 |global b=>exact .lit _
 |func f=>exact .lit _
def cL(c:Cx)(base N:Nat)(L:Nat->Bool):Cx:={c with F:=fun x=>if base<=x/\x<base+N/\L (x - base)=false then some (fun _=>none) else c.F x}
structure Inv(D:List Deferred)(ops:Array Oper)(M:Nat->Nat)(S0:Hp)(base n:Nat)(t0:Nat->RV)(c:Cx)(rvF:List Rec)(g0:Gm)(L:Nat->Bool)(a:Act)(w:World):Prop where
 ex:∃g,Ext g0 g/\(∀x,R g c.env (cvL t0 L rvF x) (a.tmps.getD x undef))/\RW (cL c base ops.size L) g (htA L (stE M S0 (base+ops.size) L rvF).1 (stE M S0 (base+ops.size) L rvF).2.1 rvF) (stE M S0 (base+ops.size) L rvF).2.2 w
 size:a.tmps.size=n
 df:a.defers=D
 none_:∀k ob,K_ rvF k=some ob->(stE M S0 (base+ops.size) L rvF).1.testBit k=false->(stE M S0 (base+ops.size) L rvF).2.1.get (base+k)=none
theorem b8G{a:Act}{d:Option Tmp}{v:Value}{x:Nat}:(a.put d v).tmps.getD x undef=if d=some x/\x<a.tmps.size then v else a.tmps.getD x undef:=by
 cases d with
 |none=>rw[if_neg (by simp)];rfl
 |some d=>
  by_cases hd:d=x
  ·subst hd
   by_cases hs:d<a.tmps.size
   ·rw[if_pos ⟨rfl,hs⟩]
    simp[Act.put,hs]
   ·rw[if_neg (fun hh=>hs hh.2)]
    simp[Act.put,hs]
  ·rw[if_neg (fun hh=>hd (Option.some.inj hh.1))]
   simp[Act.put,Array.getElem?_setIfInBounds_ne hd]
theorem a6h:∀ {l:List Rec} {k:Nat},O_ l k=true -> ∃e,a3T l=some e/\k<=e/\O_ l e=true
 |[],k,h=>by cases h
 |q::l,k,h=>by
  unfold a3T
  unfold O_ at h
  split
  ·rename_i h' n' hk
   refine⟨l.length,rfl,?_,?_⟩
   ·split at h
    ·omega
    ·have:=a1U h
     omega
   ·unfold O_
    rw[if_pos rfl,hk]
  ·rename_i hk
   split at h
   ·split at h
    ·rename_i h' n' hk'
     exact absurd hk' (hk _ _)
    ·cases h
   ·obtain⟨e,h1,h2,h3⟩:=a6h h
    refine⟨e,h1,h2,?_⟩
    unfold O_
    rw[if_neg (by have:=a1U h3;omega)]
    exact h3
theorem b6W{k:Nat}(hG:Good P call ops M S0 base n t0 rvF)(he:O_ rvF k=true):∃pre q l,rvF=pre++q::l/\l.length=k/\(∀e,a3T l=some e->(M k).testBit e=true) /\ ∃h' nx',q.kd=.eff h' nx':=by
 obtain⟨pre,q,l,h1,h2,h3,h4⟩:=Good.split hG (a1U he)
 obtain⟨o,t,_,_,_,_,hk⟩:=h3
 subst h2
 rw[h1,b5C] at he
 refine⟨pre,q,l,h1,rfl,?_⟩
 cases hk with
 |skip _ _ h=>rw[h] at he;cases he
 |pure _ _ h=>rw[h] at he;cases he
 |read _ h=>rw[h] at he;cases he
 |alloc _ _ _ _ h=>rw[h] at he;cases he
 |eff h' nx' _ hc _ h=>exact⟨hc,h',nx',h⟩
def b9N(M:Nat->Nat)(S0:Hp)(nx0:Nat)(L:Nat->Bool)(rv:List Rec):Prop:=((∀k,O_ rv k=true->L k=false)/\stE M S0 nx0 L rv=(0,S0,nx0)) \/ ∃e,O_ rv e=true/\L e=true/\(∀k,O_ rv k=true->e<k->L k=false)/\(stE M S0 nx0 L rv).1=M e
theorem b1I{nx0:Nat}{L:Nat->Bool}:∀ {rv:List Rec},b9N M S0 nx0 L rv
 |[]=>.inl ⟨fun k h=>by(cases h),rfl⟩
 |q::l=>by
  have low:∀k,k<l.length->O_ (q::l) k=O_ l k:=fun k hk=>by
   conv=>lhs;unfold O_
   rw[if_neg (by omega)]
  have up:∀k,O_ (q::l) k=true->k<l.length\/k=l.length:=fun k hk=>by
   have:=a1U hk
   simp at this
   omega
  have skip:(∀h n,q.kd=.eff h n->L l.length=false)->stE M S0 nx0 L (q::l)=stE M S0 nx0 L l->b9N M S0 nx0 L (q::l):=fun h1 h2=>by
   have top:O_ (q::l) l.length=true->L l.length=false:=fun hh=>by
    unfold O_ at hh
    rw[if_pos rfl] at hh
    split at hh
    ·rename_i h n hk
     exact h1 h n hk
    ·cases hh
   rcases b1I (nx0:=nx0) (L:=L) (rv:=l) with⟨h3,h4⟩|⟨e,e1,e2,e3,e4⟩
   ·refine .inl ⟨fun k hk=>?_,h2.trans h4⟩
    rcases up k hk with hlt|rfl
    ·exact h3 k (by rw[<-low k hlt];exact hk)
    ·exact top hk
   ·refine .inr ⟨e,by rw[low e (a1U e1)];exact e1,e2,fun k hk hlt=>?_,by rw[h2];exact e4⟩
    rcases up k hk with hlt'|rfl
    ·exact e3 k (by rw[<-low k hlt'];exact hk) hlt
    ·exact top hk
  cases hkd:q.kd with
  |eff h' n'=>
   cases hLl:L l.length with
   |true=>
    refine .inr ⟨l.length,?_,hLl,fun k hk hlt=>?_,?_⟩
    ·unfold O_
     rw[if_pos rfl,hkd]
    ·rcases up k hk with h|h<;>omega
    ·unfold stE
     rw[hkd,hLl]
     rfl
   |false=>
    refine skip (fun _ _ _=>hLl) ?_
    conv=>lhs;unfold stE
    rw[hkd,hLl]
    rfl
  |flat=>exact skip (fun h n hk=>by rw[hkd] at hk;cases hk) (by conv=>lhs;unfold stE;rw[hkd])
  |read t o=>exact skip (fun h n hk=>by rw[hkd] at hk;cases hk) (by conv=>lhs;unfold stE;rw[hkd])
  |alloc G ob=>exact skip (fun h n hk=>by rw[hkd] at hk;cases hk) (by conv=>lhs;unfold stE;rw[hkd])
end
end Go.Proofs.YtlimlmjljjmcpaaGreatDoor.Ax
namespace Go.Proofs.YtlimlmjljjmcpaaGreatDoor.Ax
open Go.RowKit
set_option linter.unusedVariables false
set_option linter.unusedSimpArgs false
section
variable {ro:Option Nat} {D:List Deferred} {P:Program} {call:Q_} {ops:Array Oper} {M:Nat->Nat} {S0:Hp} {base n:Nat} {t0:Nat->RV} {c:Cx} {rvF:List Rec}
theorem a3Y{m K:Nat}:∀ {rv:List Rec},(∀k,O_ rv k=true->(K<k\/rv.length<=K)->m.testBit k=false)->a1T m rv K=true
 |[],_=>rfl
 |q::l,h=>by
  unfold a1T
  cases hb:Nat.beq l.length K with
  |true=>rfl
  |false=>
   have hne:l.length ≠ K:=fun e=>by
    rw[e,Nat.beq_refl] at hb
    cases hb
   rw[cond_false,Bool.and_eq_true]
   refine⟨?_,a3Y fun k hk hlt=>h k ?_ ?_⟩
   ·split
    ·rename_i h' n' hk
     rw[h l.length (by unfold O_;rw[if_pos rfl,hk]) (by simp only[List.length_cons];omega)]
     rfl
    ·rfl
   ·have:=a1U hk
    unfold O_
    rw[if_neg (by omega)]
    exact hk
   ·simp only[List.length_cons]
    omega
theorem a6y{i:Nat}{t:Tr RV}{o:Oper}{r:RV}{L:Nat->Bool}{nx0:Nat}(hm:∀k,O_ rvF k=true->(M i).testBit k=true->L k=true)(hn:∀k,O_ rvF k=true->L k=true->(M k).testBit i=false) :
  ∀(rv0 pre:List Rec),rvF=pre++rv0->(∀k,rv0.length<=k->O_ rvF k=true->L k=false)->a7i P M S0 rvF i t o r rv0=true->a4F P t o (htA (fun a=>(M i).testBit a) (stE M S0 nx0 L rvF).1 (stE M S0 nx0 L rvF).2.1 rvF) r=true
 |[],pre,hp,hu,hr=>by
  have hst:stE M S0 nx0 L rvF=(0,S0,nx0):=by
   rw[hp]
   exact a6G fun k _ hk2 he=>hu k (Nat.zero_le _) (by rw[hp];exact he)
  have hnl:a1T (M i) rvF rvF.length=true:=a3Y fun k hk _=>by
   cases hb:(M i).testBit k with
   |false=>rfl
   |true=>
    have:=hm k hk hb
    rw[hu k (Nat.zero_le _) hk] at this
    cases this
  unfold a7i at hr
  rw[hnl] at hr
  rw[hst]
  exact hr
 |q::l,pre,hp,hu,hr=>by
  unfold a7i at hr
  rw[Bool.and_eq_true] at hr
  have hp':rvF=(pre++[q])++l:=by rw[hp];simp
  have rec_:(O_ rvF l.length=true->L l.length=false)->a4F P t o (htA (fun a=>(M i).testBit a) (stE M S0 nx0 L rvF).1 (stE M S0 nx0 L rvF).2.1 rvF) r=true:=fun hh=>
   a6y hm hn l (pre++[q]) hp' (fun k hk he=>by
    rcases Nat.eq_or_lt_of_le hk with e|e
    ·subst e
     exact hh he
    ·exact hu k (by simp;omega) he) hr.2
  have hat:=b5C (pre:=pre) (l:=l) (q:=q)
  rw[<-hp] at hat
  cases hkd:q.kd with
  |eff h' n'=>
   cases hL:L l.length with
   |false=>exact rec_ fun _=>hL
   |true=>
    rw[hkd] at hat
    have hst:stE M S0 nx0 L rvF=(M l.length,h',n'):=by
     rw[hp,a6G (fun k hk hk2 he=>hu k hk (by rw[hp];exact he))]
     unfold stE
     rw[hkd,hL]
     rfl
    have hnl:a1T (M i) rvF l.length=true:=a3Y fun k hk hlt=>by
     cases hb:(M i).testBit k with
     |false=>rfl
     |true=>
      have h1:=hm k hk hb
      have hlen:rvF.length=pre.length+(l.length+1):=by rw[hp];simp
      rcases hlt with hlt|hlt
      ·rw[hu k (by simp;omega) hk] at h1
       cases h1
      ·omega
    have hr1:=hr.1
    rw[hkd] at hr1
    simp only[hnl,hn l.length hat hL,Bool.not_true,Bool.or_false,Bool.false_or] at hr1
    rw[hst]
    exact hr1
  |flat=>exact rec_ fun hh=>by rw[hat,hkd] at hh;cases hh
  |read t o=>exact rec_ fun hh=>by rw[hat,hkd] at hh;cases hh
  |alloc G ob=>exact rec_ fun hh=>by rw[hat,hkd] at hh;cases hh
theorem a8V:∀ {rv0:List Rec},a3V P M S0 rvF rv0=true -> ∀ {pre l:List Rec} {q:Rec} {t:Tr RV} {o:Oper},rv0=pre++q::l->q.kd=.read t o->a7i P M S0 rvF l.length t o q.r rvF=true
 |[],_,pre,l,q,t,o,hp,_=>by cases pre<;>cases hp
 |q0::l0,h,pre,l,q,t,o,hp,hk=>by
  unfold a3V at h
  rw[Bool.and_eq_true] at h
  rcases pre with _|⟨p,pre⟩
  ·cases hp
   have:=h.1
   rw[hk] at this
   exact this
  ·cases hp
   exact a8V h.2 rfl hk
theorem a9D(hG:Good P call ops M S0 base n t0 rvF)(hlen:rvF.length=ops.size)(hM:Masks ops M):∀j,O_ rvF j=true -> ∀k,k<j->O_ rvF k=true->(M j).testBit k=true:=by
 intro j
 induction j using Nat.strongRecOn with
 |_ j ih=>
  intro hj k hk hek
  obtain⟨pre,q,l,h1,h2,h3,_⟩:=b6W hG hj
  have hek':O_ l k=true:=by
   rw[h1,show pre++q::l=(pre++[q])++l by simp,a5P (by omega)] at hek
   exact hek
  obtain⟨e,e1,e2,e3⟩:=a6h hek'
  have hjn:j<ops.size:=by rw[<-hlen];exact a1U hj
  have helt:=a1U e3
  rcases Nat.lt_or_ge k e with hlt|hge
  ·refine hM.trans j _ (Array.getElem?_eq_getElem hjn) e k (h3 e e1) (ih e (by omega) ?_ k hlt hek)
   rw[h1,show pre++q::l=(pre++[q])++l by simp,a5P helt]
   exact e3
  ·have:k=e:=by omega
   subst this
   exact h3 k e1
def more(L:Nat->Bool)(i:Nat):Nat->Bool:=fun k=>if k=i then true else L k
theorem a1Z{L:Nat->Bool}{i:Nat}:more L i i=true:=if_pos rfl
theorem a1j{L:Nat->Bool}{i k:Nat}(h:k ≠ i):more L i k=L k:=if_neg h
theorem b5s(hcall:a0c P call)(hM:Masks ops M)(hG:Good P call ops M S0 base n t0 rvF)(hlen:rvF.length=ops.size)(hreads:a3V P M S0 rvF rvF=true)(hcF:∀x f,c.F x=some f->x<base){g0:Gm}{L:Nat->Bool}{a:Act}{w:World}{i:Nat}{o:Oper}(ho:ops[i]? = some o)(hL:Down ops L)(hLi:L i=false)(he:∀e∈o.after,Region.binds .any e=true->L e.on=true)(hI:Inv D ops M S0 base n t0 c rvF g0 L a w){K:Act->World->Prop}{Q:Exit->Act->World->Prop}(hK:∀a' w',Inv D ops M S0 base n t0 c rvF g0 (more L i) a' w'->K a' w'):wpOpIn (Wd ro) 0 P ops Q i K a w:=by
 obtain⟨⟨g,hext,hcv,hw⟩,hsz,hdf,hnone⟩:=hI
 have hiN:i<ops.size:=(Array.getElem?_eq_some_iff.1 ho).1
 obtain⟨pre,q,l,hp,hli,⟨o',t,ho',hdst,hdn,ht,hk⟩,hGl⟩:=Good.split hG (i:=i) (by rw[hlen];exact hiN)
 rw[hli,ho] at ho'
 cases ho'
 have hp2:rvF=(pre++[q])++l:=by rw[hp];simp
 have hlenp:(pre++q::l).length=ops.size:=by rw[<-hp];exact hlen
 have F1:∀k,(M i).testBit k=true->L k=true:=fun k hk=>hM.down' hL ho he hk
 have F2:∀k,k<ops.size->L k=true->(M k).testBit i=false:=fun k hk hLk=>by
  cases hb:(M k).testBit i with
  |false=>rfl
  |true=>
   have:=hM.down hL k _ (Array.getElem?_eq_getElem hk) hLk i hb
   rw[hLi] at this
   cases this
 have ap1:∀k ok,i<k->ops[k]? = some ok->L k=true->o.apart ops ok=true:=fun k ok hik hok hLk=>by
  rcases hM.apart i k o ok hik ho hok with h|h
  ·rw[F2 k (Array.getElem?_eq_some_iff.1 hok).1 hLk] at h
   cases h
  ·exact h
 have ap2:∀k ok,k<i->ops[k]? = some ok->L k=false->ok.apart ops o=true:=fun k ok hik hok hLk=>by
  rcases hM.apart k i ok o hik hok ho with h|h
  ·have:=F1 k h
   rw[hLk] at this
   cases this
  ·exact h
 have F3:∀d∈o.looksAt ops,cvL t0 all l d=cvL t0 L rvF d:=fun d hd=>by
  have e1:cvL t0 L rvF d=cvL t0 L l d:=by
   rw[hp2]
   refine b2a (P:=P) (call:=call) (M:=M) (S0:=S0) (base:=base) (n:=n) (t0:=t0) (ops:=ops) (by rw[<-hp2];exact hG) fun k hk hk2 hdk=>?_
   rcases Nat.eq_or_lt_of_le hk with e|e
   ·rw[<-e,hli]
    exact hLi
   ·cases hLk:L k with
    |false=>rfl
    |true=>
     cases hok:ops[k]? with
     |none=>simp[a3j,hok] at hdk
     |some ok=>
      have hap:=ap1 k ok (by omega) hok hLk
      obtain⟨_,_,h3⟩:=Oper.apart_spec hap
      have:ok.dst=some d:=by simpa[a3j,hok] using hdk
      exact absurd hd (h3 d this)
  rw[e1]
  refine a6n (P:=P) (call:=call) (M:=M) (S0:=S0) (base:=base) (n:=n) (ops:=ops) hGl fun k hk hdk=>?_
  cases hLk:L k with
  |true=>rfl
  |false=>
   cases hok:ops[k]? with
   |none=>simp[a3j,hok] at hdk
   |some ok=>
    have hap:=ap2 k ok (by omega) hok hLk
    obtain⟨h1,_,_⟩:=Oper.apart_spec hap
    have:ok.dst=some d:=by simpa[a3j,hok] using hdk
    exact absurd hd (h1 d this)
 have hT:∀d∈o.looksAt ops,R g c.env ((t.get d).getD (.lit undef)) (a.tmps.getD d undef):=fun d hd=>by
  rw[ht d,F3 d hd]
  exact hcv d
 have hρ:=fun x hx=>b5c (ops:=ops) hT x hx
 have newcv:∀ {g1:Gm} {v:Value},Ext g g1->R g1 c.env q.r v -> ∀x,R g1 c.env (cvL t0 (more L i) rvF x) ((a.put o.dst v).tmps.getD x undef):=fun {g1 v} hg1 hr x=>by
  rw[b8G]
  by_cases hd:o.dst=some x
  ·rw[if_pos ⟨hd,by rw[hsz];exact hdn x (by rw[hdst];exact hd)⟩]
   have e1:cvL t0 (more L i) rvF x=q.r:=by
    rw[hp,b2a (P:=P) (call:=call) (M:=M) (S0:=S0) (base:=base) (n:=n) (t0:=t0) (ops:=ops) (by rw[<-hp];exact hG) fun k hk hk2 hdk=>?_]
    ·unfold cvL
     rw[if_pos ⟨by rw[hli];exact a1Z,by rw[hdst];exact hd⟩]
    ·simp only[List.length_cons] at hk
     rw[a1j (by omega)]
     cases hLk:L k with
     |false=>rfl
     |true=>
      cases hok:ops[k]? with
      |none=>simp[a3j,hok] at hdk
      |some ok=>
       have hap:=ap1 k ok (by omega) hok hLk
       obtain⟨_,h2,_⟩:=Oper.apart_spec hap
       have:ok.dst=some x:=by simpa[a3j,hok] using hdk
       exact absurd this (h2 x hd)
   rw[e1]
   exact hr
  ·rw[if_neg (fun hh=>hd hh.1)]
   have e1:cvL t0 (more L i) rvF x=cvL t0 L rvF x:=a6n (P:=P) (call:=call) (M:=M) (S0:=S0) (base:=base) (n:=n) (ops:=ops) hG fun k hk hdk=>a1j fun e=>by
    subst e
    simp[a3j,ho] at hdk
    exact hd hdk
   rw[e1]
   exact(hcv x).mono hg1
 have hcLF:∀x f,(cL c base ops.size (more L i)).F x=some f->(cL c base ops.size L).F x=some f:=fun x f hx=>by
  simp only[cL] at hx |-
  split at hx
  ·rename_i hc
   rw[if_pos ⟨hc.1,hc.2.1,by
    have:=hc.2.2
    unfold more at this
    split at this
    ·cases this
    ·exact this⟩]
   exact hx
  ·have:=hcF x f hx
   rw[if_neg (by omega)]
   exact hx
 have hlessF:∀ {g1:Gm} {h1:Hp} {nx1:Nat} {w1:World},RW (cL c base ops.size L) g1 h1 nx1 w1->RW (cL c base ops.size (more L i)) g1 h1 nx1 w1:=fun hw1=>hw1.c1r hcLF
 have hputsz:∀ {v:Value},(a.put o.dst v).tmps.size=n:=fun {v}=>by
  cases o.dst<;>simp[Act.put,hsz]
 have hputdf:∀ {v:Value},(a.put o.dst v).defers=D:=fun {v}=>put_defers.trans hdf
 have hat:=alloc_at (pre:=pre) (l:=l) (q:=q)
 rw[<-hp,hli] at hat
 have heat:=b5C (pre:=pre) (l:=l) (q:=q)
 rw[<-hp,hli] at heat
 have calm:O_ rvF i=false->stE M S0 (base+ops.size) (more L i) rvF=stE M S0 (base+ops.size) L rvF:=fun hne=>
  a6b fun k hk hek=>a1j fun e=>by
   subst e
   rw[hne] at hek
   cases hek
 have quiet:O_ rvF i=false->K_ rvF i=none -> ∀ {g1:Gm} {w1:World} {v:Value},Ext g g1->R g1 c.env q.r v->RW (cL c base ops.size L) g1 (htA L (stE M S0 (base+ops.size) L rvF).1 (stE M S0 (base+ops.size) L rvF).2.1 rvF) (stE M S0 (base+ops.size) L rvF).2.2 w1->Inv D ops M S0 base n t0 c rvF g0 (more L i) (a.put o.dst v) w1:=fun hne hna {g1 w1 v} hg1 hr hw1=>by
  refine⟨⟨g1,hext.trans hg1,newcv hg1 hr,?_⟩,hputsz,hputdf,?_⟩
  ·rw[calm hne]
   refine(hlessF hw1).congr fun G=>?_
   rw[a1v hG,a1v hG]
   by_cases hGi:G - base=i
   ·rw[hGi,hna,ite_self,ite_self]
   ·rw[a1j hGi]
  ·rw[calm hne]
   exact hnone
 unfold wpOpIn
 simp only[ho]
 have value:∀ {m':b0B P (cL c base ops.size L) g (execOp a.eval o) w q.r (htA L (stE M S0 (base+ops.size) L rvF).1 (stE M S0 (base+ops.size) L rvF).2.1 rvF) (stE M S0 (base+ops.size) L rvF).2.2},(∀cc,o.op ≠ .defer cc)->O_ rvF i=false->K_ rvF i=none->a1b t ops o=some true->(if Region.wanted o (yielded ops a.tmps)=true then o.wpIn (Wd ro) 0 P a w K Q else(∀f,o.about P w a.eval=some f->(Wd ro).fn f)/\K (a.put o.dst undef) w):=fun {m'} hnd hne hna hwant=>by
  rw[if_pos (a2t hwant hT)]
  exact(m'.wp hnd fun g' v w' k1 k2 k3=>hK _ _ (quiet hne hna k2 k1 k3))
 let em:=(stE M S0 (base+ops.size) L rvF).1
 let S:=(stE M S0 (base+ops.size) L rvF).2.1
 let nx:=(stE M S0 (base+ops.size) L rvF).2.2
 let z:Nat->Bool:=fun G=>decide (base<=G)&&L (G - base) && !em.testBit (G - base) && !(M i).testBit (G - base)&&(K_ rvF (G - base)).isSome
 have hzs:∀G,z G=true↔base<=G/\L (G - base)=true/\em.testBit (G - base)=false/\(M i).testBit (G - base)=false /\ ∃ob,K_ rvF (G - base)=some ob:=fun G=>by
  simp only[z,Bool.and_eq_true,decide_eq_true_eq,Bool.not_eq_true',Option.isSome_iff_exists]
  constructor
  ·rintro⟨⟨⟨⟨a,b⟩,c⟩,d⟩,e⟩;exact⟨a,b,c,d,e⟩
  ·rintro⟨a,b,c,d,e⟩;exact⟨⟨⟨⟨a,b⟩,c⟩,d⟩,e⟩
 have hview:∀G,(htA (fun a=>(M i).testBit a) em S rvF).get G=if z G=true then none else(htA L em S rvF).get G:=fun G=>by
  rw[a1v hG,a1v hG]
  by_cases hz:z G=true
  ·rw[if_pos hz]
   obtain⟨h1,h2,h3,h4,ob,h5⟩:=(hzs G).1 hz
   rw[if_neg (fun hh=>by rw[h4] at hh;cases hh.2.1)]
   have:=hnone (G - base) ob h5 h3
   rw[show base+(G - base)=G by omega] at this
   exact this
  ·rw[if_neg hz]
   by_cases hs:base<=G/\L (G - base)=true/\em.testBit (G - base)=false
   ·rw[if_pos hs]
    cases hm:(M i).testBit (G - base) with
    |true=>rw[if_pos ⟨hs.1,rfl,hs.2.2⟩]
    |false=>
     rw[if_neg (fun hh=>by cases hh.2.1)]
     cases hao:K_ rvF (G - base) with
     |none=>rfl
     |some ob=>exact absurd ((hzs G).2 ⟨hs.1,hs.2.1,hs.2.2,hm,ob,hao⟩) hz
   ·rw[if_neg hs,if_neg (fun hh=>hs ⟨hh.1,F1 _ hh.2.1,hh.2.2⟩)]
 have hzget:∀G,z G=true->(htA L em S rvF).get G ≠ none:=fun G hz=>by
  obtain⟨h1,h2,h3,h4,ob,h5⟩:=(hzs G).1 hz
  rw[a1v hG,if_pos ⟨h1,h2,h3⟩,h5]
  simp
 have hznx:∀G,z G=true->G<nx:=fun G hz=>by
  rcases Nat.lt_or_ge G nx with h|h
  ·exact h
  ·exact absurd (hw.dom G h) (hzget G hz)
 cases hk with
 |skip h1 h2 h3=>
  rw[h3] at hat heat
  rw[if_neg (by rw[a2t h1 hT];simp)]
  exact⟨fun _ _=>trivial,hK _ _ (quiet heat hat (Ext.refl g) (by rw[h2];exact .lit _) hw)⟩
 |pure h1 h2 h3=>
  rw[h3] at hat heat
  have hv:b8D P g (cL c base ops.size L).env (execOp a.eval o) q.r:=a5w h2 hρ
  exact value (m':=(hv.c1s hw).step) (b0S h2) heat hat h1
 |read h1 h3=>
  rw[h3] at hat heat
  have hra:=a8V hreads hp h3
  rw[hli] at hra
  have hsame:=a6y (rvF:=rvF) (nx0:=base+ops.size) (L:=L) (fun k hk hb=>F1 k hb) (fun k hk hLk=>F2 k (by rw[<-hlen];exact a1U hk) hLk) rvF [] rfl (fun k hk hek=>by
   have:=a1U hek
   omega) hra
  unfold a4F at hsame
  split at hsame<;>try cases hsame
  rename_i r' hr'
  have:=a6m hsame
  subst this
  obtain⟨c2,hc2,hw2,_,_,hback⟩:=hw.aside z hview hzget hznx
  have hd:=a8A (c:=c2) hr' (by rw[hc2];exact hρ) hw2
  obtain⟨g',v,w',k1,k2,k3,k4⟩:=hd
  refine value (m':=⟨g',v,w',.inl k1,by rw[hc2] at k2;exact k2,k3,hback g' _ _ w' k3 k4 _ fun G=>?_⟩) (b1m hr') heat hat h1
  rw[hview G]
  split<;>rfl
 |alloc ob h1 h2 h3 h4=>
  rw[h4] at hat heat
  rw[if_pos (a2t h1 hT)]
  rw[hli] at h3
  have hemi:em.testBit i=false:=by
   rcases b1I (M:=M) (S0:=S0) (nx0:=base+ops.size) (L:=L) (rv:=rvF) with⟨_,h5⟩|⟨e,e1,e2,e3,e4⟩
   ·show(stE M S0 (base+ops.size) L rvF).1.testBit i=false
    rw[h5]
    exact Nat.zero_testBit i
   ·show(stE M S0 (base+ops.size) L rvF).1.testBit i=false
    rw[e4]
    exact F2 e (by rw[<-hlen];exact a1U e1) e2
  have hFi:(cL c base ops.size L).F (base+i)=some (fun _=>none):=by
   simp only[cL]
   rw[if_pos ⟨by omega,by omega,by rw[show base+i - base=i by omega];exact hLi⟩]
  obtain⟨r1,r2,r3⟩:=hw.res _ _ hFi
  have hd:=a7M (c:=cL c base ops.size L) (nx':=nx) (F':=(cL c base ops.size (more L i)).F) h3 hρ hw r3 (fun x f hx=>⟨hcLF x f hx,fun e=>by
   subst e
   simp only[cL] at hx
   rw[if_neg (fun hh=>by
    have:=hh.2.2
    rw[show base+i - base=i by omega,a1Z] at this
    cases this)] at hx
   have:=hcF _ _ hx
   omega⟩) (Nat.le_refl _) r1
  obtain⟨g',v,w',k1,k2,k3,k4⟩:=hd
  refine⟨fun _ _=>trivial,?_⟩
  show o.uponIn (Wd ro) 0 P a K Q ((o.semAt ro a.eval).run P w)
  rw[Oper.semAt_eq ro a.eval o (a8Z h3),k1]
  refine hK _ _ ⟨⟨g',hext.trans k3,newcv k3 k2,?_⟩,hputsz,hputdf,?_⟩
  ·rw[calm heat]
   refine RW.congr (c:=cL c base ops.size (more L i)) k4 fun G=>?_
   rw[Tr.a1q,a1v hG,a1v hG]
   by_cases hGi:G=base+i
   ·subst hGi
    have e:base+i - base=i:=by omega
    rw[if_pos rfl,e,if_pos ⟨by omega,a1Z,hemi⟩,hat]
   ·rw[if_neg hGi]
    by_cases hle:base<=G
    ·rw[a1j (by omega)]
    ·rw[if_neg (fun hh=>hle hh.1),if_neg (fun hh=>hle hh.1)]
  ·rw[calm heat]
   exact hnone
 |eff h' nx' h1 h2 h3 h4=>
  rw[h4] at hat heat
  rw[if_pos (a2t h1 hT)]
  have C1:∀k,k<i->O_ rvF k=true->L k=true:=fun k hk hek=>F1 k (a9D hG hlen hM i heat k hk hek)
  have C2:∀k,i<k->O_ rvF k=true->L k=false:=fun k hk hek=>by
   cases hLk:L k with
   |false=>rfl
   |true=>
    have:=F2 k (by rw[<-hlen];exact a1U hek) hLk
    rw[a9D hG hlen hM k hek i hk heat] at this
    cases this
  have hst:stE M S0 (base+ops.size) all l=stE M S0 (base+ops.size) L rvF:=by
   have e1:stE M S0 (base+ops.size) L rvF=stE M S0 (base+ops.size) L l:=by
    rw[hp2]
    refine a6G fun k hk hk2 hek=>?_
    rw[<-hp2] at hek
    rcases Nat.eq_or_lt_of_le hk with e|e
    ·rw[<-e,hli]
     exact hLi
    ·exact C2 k (by omega) hek
   rw[e1]
   refine a6b fun k hk hek=>?_
   have:=C1 k (by omega) (by rw[hp2,a5P hk];exact hek)
   rw[this]
   rfl
  rw[hst,hli] at h3
  have emsub:∀k,(M i).testBit k=false->em.testBit k=false:=fun k hk=>by
   cases hb:em.testBit k with
   |false=>rfl
   |true=>
    have hb':(stE M S0 (base+ops.size) L rvF).1.testBit k=true:=hb
    rcases b1I (M:=M) (S0:=S0) (nx0:=base+ops.size) (L:=L) (rv:=rvF) with⟨_,h5⟩|⟨e,e1,e2,e3,e4⟩
    ·rw[h5,Nat.zero_testBit] at hb'
     cases hb'
    ·rw[e4] at hb'
     have helt:e<i:=by
      rcases Nat.lt_trichotomy e i with hh|hh|hh
      ·exact hh
      ·rw[hh,hLi] at e2
       cases e2
      ·rw[C2 e hh e1] at e2
       cases e2
     rw[hM.trans i o ho e k (a9D hG hlen hM i heat e helt e1) hb'] at hk
     cases hk
  have hview2:∀G,(htA (fun a=>(M i).testBit a) em S l).get G=if z G=true then none else(htA L em S rvF).get G:=fun G=>by
   rw[<-hview G,a1v hG,a1v hGl]
   by_cases hs:base<=G/\(M i).testBit (G - base)=true/\em.testBit (G - base)=false
   ·rw[if_pos hs,if_pos hs]
    have hlt:=hM.lt' i o ho _ hs.2.1
    rw[hp2,a7l (by omega)]
   ·rw[if_neg hs,if_neg hs]
  obtain⟨c2,hc2,hw2,hz1,hz0,hback⟩:=hw.aside z hview2 hzget hznx
  refine b0x hcall (c:=c2) h3 (by rw[hc2];exact hρ) hw2 fun g' v w' k1 k2 k3=>hK _ _ ?_
  have hst':stE M S0 (base+ops.size) (more L i) rvF=(M i,h',nx'):=by
   rw[hp,a6G (fun k hk hk2 hek=>?_)]
   ·unfold stE
    rw[h4]
    simp only[hli,a1Z,cond_true]
   ·rw[<-hp] at hek
    simp only[List.length_cons] at hk
    rw[a1j (by omega)]
    exact C2 k (by omega) hek
  refine⟨⟨g',hext.trans k2,newcv k2 (by rw[hc2] at k1;exact k1),?_⟩,hputsz,hputdf,?_⟩
  ·rw[hst']
   refine hlessF (hback g' h' nx' w' k2 k3 _ fun G=>?_)
   rw[a1v hG]
   by_cases hz:z G=true
   ·rw[if_pos hz]
    obtain⟨a1,a2,a3,a4,ob,a5⟩:=(hzs G).1 hz
    have hne:G - base ≠ i:=fun e=>by
     rw[e,hLi] at a2
     cases a2
    rw[a1v hG,if_pos ⟨a1,by rw[a1j hne];exact a2,a4⟩,if_pos ⟨a1,a2,a3⟩,a5]
   ·rw[if_neg hz]
    by_cases hs:base<=G/\more L i (G - base)=true/\(M i).testBit (G - base)=false
    ·rw[if_pos hs]
     cases hao:K_ rvF (G - base) with
     |none=>rfl
     |some ob=>
      have hne:G - base ≠ i:=fun e=>by
       rw[e,hat] at hao
       cases hao
      have hLG:=hs.2.1
      rw[a1j hne] at hLG
      exact absurd ((hzs G).2 ⟨hs.1,hLG,emsub _ hs.2.2,hs.2.2,ob,hao⟩) hz
    ·rw[if_neg hs]
  ·rw[hst']
   intro k ob hao hmk
   have hkn:k<ops.size:=by rw[<-hlen];exact a4w hao
   have e:base+k - base=k:=by omega
   cases hLk:L k with
   |true=>
    have hz:z (base+k)=true:=(hzs _).2 ⟨by omega,by rw[e];exact hLk,by rw[e];exact emsub k hmk,by rw[e];exact hmk,ob,by rw[e];exact hao⟩
    exact(k3.res _ _ (hz1 _ hz)).2.1
   |false=>
    have hz:z (base+k)=false:=by
     cases hz:z (base+k) with
     |false=>rfl
     |true=>
      have:=((hzs _).1 hz).2.1
      rw[e,hLk] at this
      cases this
    have hF:c2.F (base+k)=some (fun _=>none):=by
     rw[hz0 _ hz]
     simp only[cL]
     rw[if_pos ⟨by omega,by omega,by rw[e];exact hLk⟩]
    exact(k3.res _ _ hF).2.1
end
end Go.Proofs.YtlimlmjljjmcpaaGreatDoor.Ax
namespace Go.Proofs.YtlimlmjljjmcpaaGreatDoor.Ax
open Go.RowKit
set_option linter.unusedVariables false
set_option linter.unusedSimpArgs false
def cnt:Nat->(Nat->Bool)->Nat
 |0,_=>0
 |n+1,f=>(if f n=true then 0 else 1)+cnt n f
theorem b3f:∀ {n i:Nat} {f:Nat->Bool},i<n->f i=false->cnt n f=cnt n (more f i)+1
 |0,i,f,h,_=>absurd h (by omega)
 |n+1,i,f,h,hf=>by
  unfold cnt
  rcases Nat.lt_or_ge i n with hlt|hge
  ·rw[b3f hlt hf,a1j (by omega)]
   omega
  ·have:i=n:=by omega
   subst this
   have hlow:∀m,m<=i->cnt m (more f i)=cnt m f:=fun m=>by
    induction m with
    |zero=>intro _;rfl
    |succ m ih=>
     intro hm
     unfold cnt
     rw[ih (by omega),a1j (by omega)]
   rw[hlow i (Nat.le_refl _),hf,a1Z]
   simp
   omega
theorem a8T:∀ {n:Nat} {f:Nat->Bool},cnt n f=0 -> ∀k,k<n->f k=true
 |0,f,_,k,h=>absurd h (by omega)
 |n+1,f,h,k,hk=>by
  unfold cnt at h
  rcases Nat.lt_or_ge k n with hlt|hge
  ·exact a8T (by omega) k hlt
  ·have:k=n:=by omega
   subst this
   cases hf:f k with
   |true=>rfl
   |false=>rw[hf] at h;simp at h
theorem b6D:∀ {n:Nat} {f:Nat->Bool},cnt n f ≠ 0 -> ∃k,k<n/\f k=false /\ ∀j,j<k->f j=true
 |0,f,h=>absurd rfl h
 |n+1,f,h=>by
  by_cases hc:cnt n f=0
  ·refine⟨n,Nat.lt_succ_self _,?_,a8T hc⟩
   cases hf:f n with
   |false=>rfl
   |true=>
    unfold cnt at h
    rw[hf,hc] at h
    exact absurd rfl h
  ·obtain⟨k,h1,h2,h3⟩:=b6D hc
   exact⟨k,by omega,h2,h3⟩
section
variable {ro:Option Nat} {D:List Deferred} {P:Program} {call:Q_} {ops:Array Oper} {M:Nat->Nat} {S0:Hp} {base n:Nat} {t0:Nat->RV} {c:Cx} {rvF:List Rec}
def Lf(listed:Array Bool):Nat->Bool:=fun k=>listed.getD k false
theorem c1J{listed:Array Bool}{i:Nat}(hi:i<listed.size):Lf (listed.setIfInBounds i true)=more (Lf listed) i:=by
 funext k
 unfold Lf more
 by_cases h:k=i
 ·subst h
  rw[if_pos rfl]
  simp[hi]
 ·rw[if_neg h]
  have:i ≠ k:=fun e=>h e.symm
  simp[Array.getElem?_setIfInBounds_ne this]
theorem b0I(hcall:a0c P call)(hM:Masks ops M)(hG:Good P call ops M S0 base n t0 rvF)(hlen:rvF.length=ops.size)(hreads:a3V P M S0 rvF rvF=true)(hcF:∀x f,c.F x=some f->x<base){g0:Gm}{Q:Exit->Act->World->Prop}(hQ:∀L a w,(∀k,k<ops.size->L k=true)->Inv D ops M S0 base n t0 c rvF g0 L a w->Q .normal a w) :
  ∀(fuel:Nat) (listed:Array Bool) (a:Act) (w:World),listed.size=ops.size->cnt ops.size (Lf listed)=fuel->Down ops (Lf listed)->Inv D ops M S0 base n t0 c rvF g0 (Lf listed) a w->wpAnyIn (Wd ro) 0 P .any ops Q fuel listed a w
 |0,listed,a,w,hs,hc,hD,hI=>by
  have hall:=a8T hc
  refine⟨?_,hQ _ a w hall hI⟩
  cases hr:Region.ready .any ops listed with
  |nil=>rfl
  |cons j js=>
   have hj:j∈Region.ready .any ops listed:=by rw[hr];exact List.mem_cons_self
   obtain⟨h1,o,h2,_⟩:=mem_ready.1 hj
   have hjn:=(Array.getElem?_eq_some_iff.1 h2).1
   have:=hall j hjn
   unfold Lf at this
   have hj2:j<listed.size:=by omega
   simp[hj2] at h1 this
   rw[h1] at this
   cases this
 |fuel+1,listed,a,w,hs,hc,hD,hI=>by
  constructor
  ·intro hr
   exfalso
   obtain⟨k,h1,h2,h3⟩:=b6D (n:=ops.size) (f:=Lf listed) (by omega)
   have:k∈Region.ready .any ops listed:=by
    refine mem_ready.2 ⟨?_,ops[k],Array.getElem?_eq_getElem h1,fun e he hb=>?_⟩
    ·have hk2:k<listed.size:=by omega
     unfold Lf at h2
     simp[hk2] at h2 |-
     exact h2
    ·exact h3 e.on (hM.lt k _ (Array.getElem?_eq_getElem h1) e he hb)
   rw[hr] at this
   cases this
  ·intro i hi
   obtain⟨h1,o,h2,h3⟩:=mem_ready.1 hi
   have hin:=(Array.getElem?_eq_some_iff.1 h2).1
   have hi2:i<listed.size:=by omega
   have hLi:Lf listed i=false:=by
    unfold Lf
    simp[hi2] at h1 |-
    exact h1
   refine b5s hcall hM hG hlen hreads hcF h2 hD hLi h3 hI fun a' w' hI'=>?_
   have hset:=c1J (listed:=listed) hi2
   refine b0I hcall hM hG hlen hreads hcF hQ fuel _ a' w' (by simpa using hs) ?_ ?_ ?_
   ·rw[hset]
    have:=b3f hin hLi
    omega
   ·rw[hset]
    intro j oj hj hLj e he hb
    by_cases hji:j=i
    ·subst hji
     rw[h2] at hj
     cases hj
     have:=h3 e he hb
     by_cases hei:e.on=j
     ·rw[hei];exact a1Z
     ·rw[a1j hei];exact this
    ·rw[a1j hji] at hLj
     have:=hD j oj hj hLj e he hb
     by_cases hei:e.on=i
     ·rw[hei];exact a1Z
     ·rw[a1j hei];exact this
   ·rw[hset]
    exact hI'
theorem b6l{x:Nat}:∀ {rv:List Rec},cvL t0 (fun _=>false) rv x=t0 x
 |[]=>rfl
 |q::l=>by
  unfold cvL
  rw[if_neg (by simp)]
  exact b6l
theorem a8n{nx0:Nat}:∀ {rv:List Rec},stE M S0 nx0 (fun _=>false) rv=(0,S0,nx0)
 |[]=>rfl
 |q::l=>by
  unfold stE
  split
  ·exact a8n
  ·exact a8n
theorem b5D(hG:Good P call ops M S0 base n t0 rvF){k:Nat}{ob:OB}(h:K_ rvF k=some ob):S0.get (base+k)=none:=by
 obtain⟨pre,q,l,h1,h2,⟨o,t,_,_,_,_,hk⟩,_⟩:=Good.split hG (a4w h)
 subst h2
 rw[h1,alloc_at] at h
 cases hk with
 |skip _ _ e=>rw[e] at h;cases h
 |pure _ _ e=>rw[e] at h;cases h
 |read _ e=>rw[e] at h;cases h
 |alloc _ _ e _ _=>exact e
 |eff _ _ _ _ _ e=>rw[e] at h;cases h
theorem b5y(hcall:a0c P call):b2l P (a0E P call):=by
 intro ops s x s' hd ro c g a w Q id hs hq
 unfold a0E at hd
 split at hd<;>try cases hd
 rename_i mk hmk
 split at hd<;>try cases hd
 rename_i rv t hgen
 obtain⟨hM,hfol⟩:=b8h hmk
 dsimp only at hd
 cases hro:a3V P (fun j=>(mk.get j).getD 0) s.h rv rv with
 |false=>rw[hro] at hd;cases hd
 |true=>
 rw[hro,cond_true] at hd
 obtain⟨hG,ht,hlen⟩:=b4B (P:=P) (call:=call) (ops:=ops) (M:=fun j=>(mk.get j).getD 0) (S0:=s.h) (base:=s.nx) (n:=s.n) (t0:=fun x=>(s.tm.get x).getD (.lit undef)) rfl ops.toList [] rv s.tm t hgen (fun k o hk=>by
  rw[Array.getElem?_toList] at hk
  simpa using hk) trivial (fun x=>rfl)
 have hlen':rv.length=ops.size:=by rw[hlen];simp
 have hcF:∀x f,c.F x=some f->x<s.nx:=fun x f hx=>(hs.rw.res x f hx).1
 have hres:x=.normal/\s'=⟨t,s.n,htA (fun _=>true) (stE (fun j=>(mk.get j).getD 0) s.h (s.nx+ops.size) (fun _=>true) rv).1 (stE (fun j=>(mk.get j).getD 0) s.h (s.nx+ops.size) (fun _=>true) rv).2.1 rv,(stE (fun j=>(mk.get j).getD 0) s.h (s.nx+ops.size) (fun _=>true) rv).2.2,s.ds⟩:=by
  split at hd
  ·rename_i e
   cases hd
   rw[e]
   exact⟨rfl,rfl⟩
  ·rename_i v l r e
   cases hd
   rw[e]
   exact⟨rfl,rfl⟩
 obtain⟨rfl,rfl⟩:=hres
 refine wpIn_region_any hfol ?_
 have hfalse:Lf (Array.replicate ops.size false)=fun _=>false:=by
  funext k
  unfold Lf
  rw[Array.getD_eq_getD_getElem?,Array.getElem?_replicate]
  split<;>rfl
 refine b0I (D:=a.defers) hcall hM hG hlen' hro hcF (g0:=g) (fun L a' w' hall hI=>?_) ops.size _ a _ (by simp) ?_ ?_ ?_
 ·obtain⟨⟨g',hext,hcv,hw⟩,hsz,hdf,_⟩:=hI
  have hst:stE (fun j=>(mk.get j).getD 0) s.h (s.nx+ops.size) L rv=stE (fun j=>(mk.get j).getD 0) s.h (s.nx+ops.size) (fun _=>true) rv:=a6b fun k hk _=>hall k (by omega)
  refine hq g' a' w' hext ⟨⟨hsz,fun i=>?_⟩,?_,hdf ▸ hs.df.mono hext⟩
  ·rw[ht i,<-a6n (P:=P) (call:=call) (M:=fun j=>(mk.get j).getD 0) (S0:=s.h) (base:=s.nx) (n:=s.n) (ops:=ops) (L:=L) (L':=all) hG fun k hk _=>hall k (by omega)]
   exact hcv i
  ·rw[hst] at hw
   have hw2:RW c g' _ _ w':=hw.c1r (F':=c.F) fun x f hx=>by
    have:=hcF x f hx
    simp only[cL]
    rw[if_neg (by omega)]
    exact hx
   refine hw2.congr fun G=>?_
   rw[a1v hG,a1v hG]
   by_cases hao:∃ob,K_ rv (G - s.nx)=some ob
   ·obtain⟨ob,hob⟩:=hao
    rw[hall (G - s.nx) (by rw[<-hlen'];exact a4w hob)]
   ·have:K_ rv (G - s.nx)=none:=by
     cases hob:K_ rv (G - s.nx) with
     |none=>rfl
     |some ob=>exact absurd ⟨ob,hob⟩ hao
    rw[this,ite_self,ite_self]
 ·rw[hfalse]
  have:∀m,cnt m (fun _=>false)=m:=fun m=>by
   induction m with
   |zero=>rfl
   |succ m ih=>unfold cnt;rw[ih];simp;omega
  exact this _
 ·rw[hfalse]
  intro j o _ hj
  cases hj
 ·rw[hfalse]
  refine⟨⟨g,Ext.refl g,fun x=>?_,?_⟩,hs.rf.size,rfl,fun k ob hk _=>?_⟩
  ·rw[b6l]
   exact hs.rf.at_ x
  ·rw[a8n]
   have hw:=hs.rw.drew
   have h0:RW (cL c s.nx ops.size fun _=>false) g s.h (s.nx+ops.size) w.drew:=by
    refine⟨hw.os,hw.tape,hw.output,hw.size,hw.keep,fun G e hGe=>hw.free G e (by omega),fun G hGe=>hw.dom G (by omega),fun x f hx=>?_,fun G ob hg=>(hw.ok G ob hg).ctx rfl fun _ _ _ _ _ hk=>hk,hw.sep⟩
    simp only[cL] at hx
    split at hx
    ·rename_i hc
     cases hx
     exact⟨by omega,hw.dom x hc.1,fun e=>hw.free x e hc.1⟩
    ·obtain⟨h1,h2,h3⟩:=hw.res x f hx
     exact⟨by omega,h2,h3⟩
   refine h0.congr fun G=>?_
   rw[a1v hG,if_neg (fun hh=>by cases hh.2.1)]
  ·rw[a8n]
   exact b5D hG hk
theorem b3i{orc:Q_}(horc:a0c P orc)(d:Nat):a0c P (a0y P orc (a0E P) d):=a5m horc (fun call hc=>b5y hc) d
end
def a0Y:Q_:=fun _ _ _ _=>none
theorem a6j(P:Program):a0c P a0Y:=⟨fun _ _ _ _ _ _ _ h=>by(cases h),fun _ _ _ _ _ _ _ h=>by cases h⟩
def c0w(w:World)(env:Nat->Value)(ht:a0O w)(he:b2i (fun q=>w.heap[q]?) env):Cx:={w0:=w,K:=fun q=>w.heap[q]?,F:=fun _=>none,env:=env,tab:=ht,envp:=he}
theorem b9E(w:World)(env:Nat->Value)(ht:a0O w)(he:b2i (fun q=>w.heap[q]?) env):RW (c0w w env ht he) (fun _ _=>none) .leaf 0 w:=
 ⟨rfl,rfl,rfl,Nat.le_refl _,fun q o h=>h,fun _ _ _=>rfl,fun _ _=>rfl,fun x f h=>by(cases h),fun G ob h=>by(cases h),fun G G' e e' q n n' _ _ h=>by(cases h)⟩
theorem RW.below{w w':World}{env:Nat->Value}{ht:a0O w}{he:b2i (fun q=>w.heap[q]?) env}{g:Gm}{h:Hp}{nx:Nat}(hw:RW (c0w w env ht he) g h nx w'):Below w.heap.size w w':=
 ⟨hw.os,hw.tape,hw.output,hw.size,fun k hk=>by
  have:w.heap[k]? = some w.heap[k]:=Array.getElem?_eq_getElem hk
  rw[this]
  exact hw.keep k _ this⟩
theorem a4r{P:Program}{orc:Q_}(horc:a0c P orc){d:Nat}{f:FuncId}{args:List RV}{r:RV}{h':Hp}{nx':Nat}(hr:a0y P orc (a0E P) d (.fn f) args .leaf 0=some (.ret r,h',nx'))(env:Nat->Value)(vs:List Value)(hv:RL (fun _ _=>none) env args vs)(w:World)(ht:a0O w)(he:b2i (fun q=>w.heap[q]?) env)(K:Ending->World->Prop)(hK:∀g v w',R g env r v->RW (c0w w env ht he) g h' nx' w'->Below w.heap.size w w'->K (.returned v) w'):Calls P f vs.toArray w K:=
 ((b3i horc d).1 _ _ _ _ _ _ _ hr).2 (c0w w env ht he) _ w vs hv (b9E w env ht he) K fun g' v w' k1 k2 k3=>hK g' v w' k1 k3 k3.below
end Go.Proofs.YtlimlmjljjmcpaaGreatDoor.Ax
set_option linter.unusedVariables false
namespace Go.Proofs.YtlimlmjljjmcpaaGreatDoor.Ax
open Go Go.RowKit
theorem b1n{g:Gm}{env:Nat->Value}:RL g env [] []:=⟨rfl,fun i h=>by cases h⟩
theorem b1V{g:Gm}{env:Nat->Value}{r:RV}{v:Value}{l:List RV}{vs:List Value}(h:R g env r v)(hl:RL g env l vs):RL g env (r::l) (v::vs):=
 ⟨by simp[hl.len],fun i h1 h2=>by
  cases i with
  |zero=>exact h
  |succ i=>exact hl.at_ i (by simpa using h1) (by simpa using h2)⟩
def a3z:Option (RE × Hp × Nat)->Bool
 |some (.ret (.lit (.bool b)),_,_)=>b
 |_=>false
theorem a7K{x:Option (RE × Hp × Nat)}(h:a3z x=true):∃h' nx',x=some (.ret (.lit (.bool true)),h',nx'):=by
 unfold a3z at h
 split at h
 ·subst h
  exact⟨_,_,rfl⟩
 ·cases h
theorem b4S{P:Program}{d:Nat}{f:FuncId}{args:List RV}(hr:a3z (a0y P a0Y (a0E P) d (.fn f) args .leaf 0)=true)(env:Nat->Value)(vs:List Value)(hv:RL (fun _ _=>none) env args vs)(w:World)(ht:a0O w)(he:b2i (fun q=>w.heap[q]?) env) :
  Calls P f vs.toArray w fun e w'=>e=.returned (.bool true)/\Below w.heap.size w w':=by
 obtain⟨h',nx',hx⟩:=a7K hr
 refine a4r (a6j P) hx env vs hv w ht he _ fun g v w' k1 _ k3=>?_
 cases k1
 exact⟨rfl,k3⟩
end Go.Proofs.YtlimlmjljjmcpaaGreatDoor.Ax
set_option linter.unusedVariables false
namespace Go.Proofs.YtlimlmjljjmcpaaGreatDoor.Ax
open Go Go.RowKit
section
variable {P:Program} {c:Cx} {g:Gm} {h:Hp} {nx:Nat} {w w':World}
theorem RW.under(hw:RW c g h nx w)(hb:Below w.heap.size w w'):RW c g h nx w':=by
 obtain⟨b1,b2,b3,b4,b5⟩:=hb
 exact⟨b1.trans hw.os,b2.trans hw.tape,b3.trans hw.output,Nat.le_trans hw.size b4,fun q o hq=>(b5 q (Array.getElem?_eq_some_iff.1 (hw.keep q o hq)).1).trans (hw.keep q o hq),hw.free,hw.dom,hw.res,
  fun G ob hG=>(hw.ok G ob hG).mono (Ext.refl g) (fun _=>rfl) fun e q n hl hq=>b5 q (hw.a1r ⟨ob,hG,hl⟩ hq).2,hw.sep⟩
def orO(a b:Q_):Q_:=fun who args h nx=>
 match a who args h nx with
 |some r=>some r
 |none=>b who args h nx
theorem b9T{a b:Q_}(ha:a0c P a)(hb:a0c P b):a0c P (orO a b):=by
 refine⟨fun f args h nx re h2 nx2 hc=>?_,fun G args h nx re h2 nx2 hc=>?_⟩
 ·unfold orO at hc
  split at hc
  ·rename_i r hr
   cases hc
   exact ha.1 _ _ _ _ _ _ _ hr
  ·exact hb.1 _ _ _ _ _ _ _ hc
 ·unfold orO at hc
  split at hc
  ·rename_i r hr
   cases hc
   exact ha.2 _ _ _ _ _ _ _ hr
  ·exact hb.2 _ _ _ _ _ _ _ hc
end
end Go.Proofs.YtlimlmjljjmcpaaGreatDoor.Ax
set_option linter.unusedVariables false
namespace Go.Proofs.YtlimlmjljjmcpaaGreatDoor.Ax
open Go Go.RowKit
def a9R:List Nat->Bool
 |[]=>true
 |x::l=>bif Nat.ble x 127 then a9R l else false
theorem a7y:∀ {l:List Nat},a9R l=true -> ∀x∈l,x<128
 |[],_,x,hx=>by cases hx
 |y::l,h,x,hx=>by
  unfold a9R at h
  cases hb:Nat.ble y 127 with
  |false=>rw[hb] at h;cases h
  |true=>
   rw[hb,cond_true] at h
   rcases List.mem_cons.1 hx with rfl|hx
   ·have:=Nat.le_of_ble_eq_true hb
    omega
   ·exact a7y h x hx
def up1(x:Nat):Nat:=bif Nat.ble 97 x&&Nat.ble x 122 then x - 32 else x
theorem c1Z:∀x,x<128->Lib.upperB (UInt8.ofNat x)=UInt8.ofNat (up1 x)/\up1 x<256:=by decide +kernel
def c0R(P:Program)(f:FuncId)(m:UInt8->UInt8):Prop:=∀(s:ByteArray) (w:World),s.size<=140737488355328->(∀(j:Nat) (b:UInt8),s.data.toList[j]? = some b->b.toNat<128)->Calls P f #[.string s] w fun e w'=>e=.returned (.string ⟨(s.data.toList.map m).toArray⟩)/\Below w.heap.size w w'
def b9O(f0:FuncId)(m:Nat->Nat):Q_:=fun who args h nx=>
 match who,args with
 |.fn f,[.str l]=>bif Nat.beq f f0 then(bif a9R l&&Nat.ble l.length 1000000 then a8U (l.map m) fun r=>some (.ret (.str r),h,nx) else none) else none
 |_,_=>none
theorem a2p(l:List Nat):(r_ l).data.toList=l.map UInt8.ofNat:=by
 unfold r_
 simp
theorem b8n{P:Program}{f0:FuncId}{m:Nat->Nat}{mB:UInt8->UInt8}(hm:∀x,x<128->mB (UInt8.ofNat x)=UInt8.ofNat (m x)/\m x<256)(hr:b4d P f0)(hlaw:c0R P f0 mB):a0c P (b9O f0 m):=by
 refine⟨fun f args h nx re h2 nx2 hc=>?_,fun G args h nx re h2 nx2 hc=>by cases hc⟩
 unfold b9O at hc
 split at hc
 case h_2=>cases hc
 rename_i f l ea
 cases ea
 cases hb:Nat.beq f f0 with
 |false=>rw[hb] at hc;cases hc
 |true=>
  rw[hb,cond_true] at hc
  cases hb2:a9R l&&Nat.ble l.length 1000000 with
  |false=>rw[hb2] at hc;cases hc
  |true=>
   rw[hb2,cond_true,a7g] at hc
   cases hc
   rw[Bool.and_eq_true] at hb2
   have e1:=Nat.eq_of_beq_eq_true hb
   subst e1
   have ha:=a7y hb2.1
   have hlen:=Nat.le_of_ble_eq_true hb2.2
   refine⟨hr,fun c g w vs hv hw K hK=>?_⟩
   obtain⟨v,rfl⟩:∃v,vs=[v]:=by
    have:=hv.len
    match vs,this with
    |[v],_=>exact⟨v,rfl⟩
   have hv0:=hv.at_ 0 (by simp) (by simp)
   simp only[List.getElem_cons_zero] at hv0
   cases hv0
   refine(hlaw (r_ l) w ?_ ?_).mono fun e w' ⟨he,hbel⟩=>?_
   ·have:(r_ l).size=l.length:=by
     have h1:(r_ l).size=(r_ l).data.toList.length:=by rw[Array.length_toList];rfl
     rw[h1,a2p,List.length_map]
    omega
   ·intro j b hj
    rw[a2p] at hj
    obtain⟨x,hx,rfl⟩:=List.mem_map.1 (List.mem_of_getElem? hj)
    have:=ha x hx
    rw[UInt8.toNat_ofNat']
    omega
   ·subst he
    refine hK g _ w' ?_ (Ext.refl g) (hw.under hbel)
    rw[a2p,List.map_map]
    have e2:(l.map (mB ∘ UInt8.ofNat))=(l.map m).map UInt8.ofNat:=by
     rw[List.map_map]
     exact List.map_congr_left fun x hx=>(hm x (ha x hx)).1
    rw[e2]
    exact .str fun x hx=>by
     obtain⟨y,hy,rfl⟩:=List.mem_map.1 hx
     exact(hm y (ha y hy)).2
def b7H(P:Program)(f:FuncId)(ty:TypeId)(T:List Nat)(L:List (List Nat)):Prop:=∀(s:ByteArray) (w:World),a0O w->s.data.toList=T.map UInt8.ofNat->Calls P f #[.string s] w fun e w'=>e=.returned (.slice (some ⟨w.heap.size,0,none⟩) L.length L.length)/\w'=w.alloc (.cells (L.map fun l=>Value.string (r_ l)).toArray ty)
def b1O(f0:FuncId)(ty:TypeId)(T:List Nat)(L:List RV)(n:Nat):Q_:=fun who args h nx=>
 match who,args with
 |.fn f,[.str l]=>bif Nat.beq f f0 then(bif a3C l T then X_ (nx+1) fun nx'=>a5b h nx (.cells ty false 1 [(0,L)]) fun h'=>some (.ret (.sl nx 0 0 n 1),h',nx') else none) else none
 |_,_=>none
theorem b5R{P:Program}{f0:FuncId}{ty:TypeId}{T:List Nat}{L:List (List Nat)}(hL:∀l∈L,∀x∈l,x<256)(hr:b4d P f0)(hlaw:b7H P f0 ty T L):a0c P (b1O f0 ty T (L.map .str) L.length):=by
 refine⟨fun f args h nx re h2 nx2 hc=>?_,fun G args h nx re h2 nx2 hc=>by cases hc⟩
 unfold b1O at hc
 split at hc
 case h_2=>cases hc
 rename_i f l ea
 cases ea
 cases hb:Nat.beq f f0 with
 |false=>rw[hb] at hc;cases hc
 |true=>
  rw[hb,cond_true] at hc
  cases hb2:a3C l T with
  |false=>rw[hb2] at hc;cases hc
  |true=>
   rw[hb2,cond_true,J_,a0U] at hc
   cases hc
   have e1:=Nat.eq_of_beq_eq_true hb
   have e2:=a2M.1 hb2
   subst e1 e2
   refine⟨hr,fun c g w vs hv hw K hK=>?_⟩
   obtain⟨v,rfl⟩:∃v,vs=[v]:=by
    have:=hv.len
    match vs,this with
    |[v],_=>exact⟨v,rfl⟩
   have hv0:=hv.at_ 0 (by simp) (by simp)
   simp only[List.getElem_cons_zero] at hv0
   cases hv0
   have ht:a0O w:=fun b l hb=>by
    obtain⟨t,f,h1⟩:=c.tab b l hb
    exact⟨t,f,hw.keep b _ h1⟩
   refine(hlaw (r_ l) w ht (a2p l)).mono fun e w' ⟨he,hw'⟩=>?_
   subst he hw'
   have hrw:=hw.alloc (G:=nx) (nx':=nx+1) (F':=c.F) (fun e=>hw.free nx e (Nat.le_refl _)) (fun x f hx=>⟨hx,by have:=(hw.res x f hx).1;omega⟩) (Nat.le_succ _) (Nat.lt_succ_self _) (vs:=(L.map fun l=>Value.string (r_ l)).toArray) (elem:=ty) (cs:=L.map .str) (by simp) fun j h1 h2=>by
    simp only[List.getElem_map,List.getElem_toArray]
    exact .str (hL _ (List.getElem_mem (by simpa using h1)))
   refine hK _ _ _ (.sl (q:=w.heap.size) (n:=(L.map fun l=>Value.string (r_ l)).toArray.size) ?_ (Nat.le_refl _) ?_) (a0I (hw.free _ _ (Nat.le_refl _))) hrw
   ·unfold a5R
    simp
   ·simp
def c1c(P:Program)(f:FuncId):Prop:=∀(n:Int) (w:World),-9223372036854775808<=n->n<=9223372036854775807->a0O w->Calls P f #[.int .i64 n] w fun e w'=>e=.returned (.string ⟨(Lib.itoa n).toArray⟩)/\Below w.heap.size w w'
def b6K:List (Value × List Nat)->Value->Option (List Nat)
 |[],_=>none
 |(u,l)::r,v=>bif eqV u v then some l else b6K r v
theorem b0O:∀ {L:List (Value × List Nat)} {v:Value} {l:List Nat},b6K L v=some l->(v,l)∈L
 |[],v,l,h=>by cases h
 |(u,l0)::r,v,l,h=>by
  unfold b6K at h
  cases e:eqV u v with
  |true=>
   rw[e,cond_true] at h
   cases h
   rw[b8M e]
   exact List.mem_cons_self
  |false=>
   rw[e,cond_false] at h
   exact List.mem_cons_of_mem _ (b0O h)
def b9Q(f0:FuncId)(L:List (Value × List Nat)):Q_:=fun who args h nx=>
 match who,args with
 |.fn f,[.lit v]=>bif Nat.beq f f0 then(match b6K L v with
  |some l=>some (.ret (.str l),h,nx)
  |none=>none) else none
 |_,_=>none
theorem b9g{P:Program}{f0:FuncId}{L:List (Value × List Nat)}(hL:∀p∈L,∃n:Int,p.1=.int .i64 n /\ -9223372036854775808<=n/\n<=9223372036854775807/\Lib.itoa n=p.2.map UInt8.ofNat /\ ∀x∈p.2,x<256)(hr:b4d P f0)(hlaw:c1c P f0):a0c P (b9Q f0 L):=by
 refine⟨fun f args h nx re h2 nx2 hc=>?_,fun G args h nx re h2 nx2 hc=>by cases hc⟩
 unfold b9Q at hc
 split at hc
 case h_2=>cases hc
 rename_i f v0 ea
 cases ea
 cases hb:Nat.beq f f0 with
 |false=>rw[hb] at hc;cases hc
 |true=>
  rw[hb,cond_true] at hc
  split at hc<;>cases hc
  rename_i l hl
  have e1:=Nat.eq_of_beq_eq_true hb
  subst e1
  obtain⟨n,hn,h1,h2,h3,h4⟩:=hL _ (b0O hl)
  simp only at hn h3 h4
  subst hn
  refine⟨hr,fun c g w vs hv hw K hK=>?_⟩
  obtain⟨v,rfl⟩:∃v,vs=[v]:=by
   have:=hv.len
   match vs,this with
   |[v],_=>exact⟨v,rfl⟩
  have hv0:=hv.at_ 0 (by simp) (by simp)
  simp only[List.getElem_cons_zero] at hv0
  cases hv0
  have ht:a0O w:=fun b l hb=>by
   obtain⟨t,f,h1⟩:=c.tab b l hb
   exact⟨t,f,hw.keep b _ h1⟩
  refine(hlaw n w h1 h2 ht).mono fun e w' ⟨he,hbel⟩=>?_
  subst he
  refine hK g _ w' ?_ (Ext.refl g) (hw.under hbel)
  rw[h3]
  exact .str h4
end Go.Proofs.YtlimlmjljjmcpaaGreatDoor.Ax
set_option linter.unusedVariables false
namespace Go.Proofs.YtlimlmjljjmcpaaGreatDoor.Ax
open Go Go.RowKit
def kwN:List Nat:=[65,68,68,32,65,70,84,69,82,32,65,76,76,32,65,76,84,69,82,32,65,78,68,32,65,83,32,66,69,70,79,82,69,32,66,69,71,73,78,32,66,69,84,87,69,69,78,32,66,79,79,76,32,66,89,32,67,72,69,67,75,32,67,79,65,76,69,83,67,69,32,67,79,77,77,73,84,32,67,79,78,84,65,73,78,83,32,67,79,85,78,84,32,67,82,69,65,84,69,32,68,69,70,65,85,76,84,32,68,69,76,69,84,69,32,68,69,83,67,32,68,73,83,84,73,78,67,84,32,68,82,79,80,32,68,85,82,73,78,71,32,69,81,85,65,76,83,32,69,88,67,69,80,84,32,70,65,76,83,69,32,70,73,78,73,83,72,69,68,66,89,32,70,73,78,73,83,72,69,83,32,70,79,82,69,73,71,78,32,70,79,82,69,86,69,82,32,70,82,79,77,32,71,82,79,85,80,32,72,79,76,68,32,73,70,32,73,78,83,69,82,84,32,73,78,84,32,73,78,84,69,82,83,69,67,84,32,73,78,84,79,32,73,83,32,74,79,73,78,32,75,69,89,32,76,69,70,84,32,76,69,78,71,84,72,32,76,73,77,73,84,32,77,65,88,32,77,69,69,84,83,32,77,69,84,66,89,32,77,73,78,32,78,79,78,83,69,81,85,69,78,67,69,68,32,78,79,84,32,78,79,87,32,78,85,76,76,32,79,70,32,79,78,32,79,82,32,79,82,68,69,82,32,79,86,69,82,76,65,80,80,69,68,66,89,32,79,86,69,82,76,65,80,83,32,80,82,73,77,65,82,89,32,80,82,85,78,69,32,82,69,70,69,82,69,78,67,69,83,32,82,69,76,69,65,83,69,32,82,69,78,65,77,69,32,82,69,84,65,73,78,32,82,79,76,76,66,65,67,75,32,83,69,76,69,67,84,32,83,69,81,85,69,78,67,69,68,32,83,69,84,32,83,84,65,82,84,69,68,66,89,32,83,84,65,82,84,83,32,83,85,77,32,83,89,83,84,69,77,32,83,89,83,84,69,77,70,82,79,77,32,83,89,83,84,69,77,84,79,32,84,65,66,76,69,32,84,69,88,84,32,84,79,32,84,82,85,69,32,84,88,32,85,78,68,69,82,32,85,78,73,79,78,32,85,80,68,65,84,69,32,86,65,76,73,68,32,86,65,76,73,68,70,82,79,77,32,86,65,76,73,68,84,79,32,86,65,76,85,69,83,32,87,72,69,82,69]
def kwL:List (List Nat):=[[65,68,68],[65,70,84,69,82],[65,76,76],[65,76,84,69,82],[65,78,68],[65,83],[66,69,70,79,82,69],[66,69,71,73,78],[66,69,84,87,69,69,78],[66,79,79,76],[66,89],[67,72,69,67,75],[67,79,65,76,69,83,67,69],[67,79,77,77,73,84],[67,79,78,84,65,73,78,83],[67,79,85,78,84],[67,82,69,65,84,69],[68,69,70,65,85,76,84],[68,69,76,69,84,69],[68,69,83,67],[68,73,83,84,73,78,67,84],[68,82,79,80],[68,85,82,73,78,71],[69,81,85,65,76,83],[69,88,67,69,80,84],[70,65,76,83,69],[70,73,78,73,83,72,69,68,66,89],[70,73,78,73,83,72,69,83],[70,79,82,69,73,71,78],[70,79,82,69,86,69,82],[70,82,79,77],[71,82,79,85,80],[72,79,76,68],[73,70],[73,78,83,69,82,84],[73,78,84],[73,78,84,69,82,83,69,67,84],[73,78,84,79],[73,83],[74,79,73,78],[75,69,89],[76,69,70,84],[76,69,78,71,84,72],[76,73,77,73,84],[77,65,88],[77,69,69,84,83],[77,69,84,66,89],[77,73,78],[78,79,78,83,69,81,85,69,78,67,69,68],[78,79,84],[78,79,87],[78,85,76,76],[79,70],[79,78],[79,82],[79,82,68,69,82],[79,86,69,82,76,65,80,80,69,68,66,89],[79,86,69,82,76,65,80,83],[80,82,73,77,65,82,89],[80,82,85,78,69],[82,69,70,69,82,69,78,67,69,83],[82,69,76,69,65,83,69],[82,69,78,65,77,69],[82,69,84,65,73,78],[82,79,76,76,66,65,67,75],[83,69,76,69,67,84],[83,69,81,85,69,78,67,69,68],[83,69,84],[83,84,65,82,84,69,68,66,89],[83,84,65,82,84,83],[83,85,77],[83,89,83,84,69,77],[83,89,83,84,69,77,70,82,79,77],[83,89,83,84,69,77,84,79],[84,65,66,76,69],[84,69,88,84],[84,79],[84,82,85,69],[84,88],[85,78,68,69,82],[85,78,73,79,78],[85,80,68,65,84,69],[86,65,76,73,68],[86,65,76,73,68,70,82,79,77],[86,65,76,73,68,84,79],[86,65,76,85,69,83],[87,72,69,82,69]]
theorem b7N:Lib.fields (kwN.map UInt8.ofNat)=kwL.map fun l=>l.map UInt8.ofNat:=by decide +kernel
theorem a9p:(kwN.map UInt8.ofNat).all (fun b=>decide (b.toNat<128))=true:=by decide +kernel
theorem c1V:kwN.length<1000:=by decide +kernel
theorem b9k:kwL.all (fun l=>l.all fun x=>decide (x<256))=true:=by decide +kernel
theorem nSp:Tryz.prog.globalNamed "strings.asciiSpace" = some 2:=by kernel_rfl
theorem c1T:Tryz.prog.globalNamed "internal/strconv.uint64pow10" = some 1:=by kernel_rfl
theorem c2K{w:World}(ht:a0O w):Lib.TabIs Tryz.prog w "strings.asciiSpace" .u8 Lib.asciiSpaceTab:=by
 obtain⟨t,f,h⟩:=ht 2 spV rfl
 unfold Lib.TabIs World.var?
 rw[nSp]
 simp only[Option.bind_some]
 rw[h]
 show some spV.toArray=_
 rw[<-b9e]
theorem b9l:(Lib.pow10Tab.map fun z=>Value.int .u64 z)=pwV:=by
 have h:Lib.pow10Tab=pwN.map fun z=>Int.ofNat z:=by decide +kernel
 rw[h,List.map_map]
 rfl
theorem c1K{w:World}(ht:a0O w):Lib.TabIs Tryz.prog w "internal/strconv.uint64pow10" .u64 Lib.pow10Tab:=by
 obtain⟨t,f,h⟩:=ht 1 pwV rfl
 unfold Lib.TabIs World.var?
 rw[c1T]
 simp only[Option.bind_some]
 rw[h]
 show some pwV.toArray=_
 rw[<-b9l]
theorem c0H{w:World}(h1:Lib.TabIs Tryz.prog w "strings.asciiSpace" .u8 Lib.asciiSpaceTab)(h2:Lib.TabIs Tryz.prog w "internal/strconv.uint64pow10" .u64 Lib.pow10Tab):a0O w:=by
 refine c0D ?_ ?_
 ·unfold Lib.TabIs World.var? at h1
  rw[nSp] at h1
  simp only[Option.bind_some] at h1
  split at h1
  ·rename_i cs t f hh
   injection h1 with h1
   exact⟨t,f,by rw[<-h1];exact hh⟩
  ·cases h1
 ·unfold Lib.TabIs World.var? at h2
  rw[c1T] at h2
  simp only[Option.bind_some] at h2
  split at h2
  ·rename_i cs t f hh
   injection h2 with h2
   rw[b9l] at h2
   exact⟨t,f,by rw[<-h2];exact hh⟩
  ·cases h2
theorem n_{w w':World}(ht:a0O w)(hb:Below w.heap.size w w'):a0O w':=fun b l h=>by
 obtain⟨t,f,k⟩:=ht b l h
 exact⟨t,f,(hb.block b (Array.getElem?_eq_some_iff.1 k).1).trans k⟩
def c1m(P:Program)(f:FuncId):Bool:=match P.funcs[f]? with
 |some fn=>!(fn.name == "runtime.NumGoroutine")&&fn.body.isSome
 |none=>false
theorem b1Y{P:Program}{f:FuncId}(h:c1m P f=true):b4d P f:=by
 unfold c1m at h
 split at h
 ·rename_i fn hf
  rw[Bool.and_eq_true] at h
  obtain⟨code,hc⟩:=Option.isSome_iff_exists.1 h.2
  exact⟨fn,code,hf,by simpa using h.1,hc⟩
 ·cases h
theorem b5l(w:World)(k:Nat)(os:Array Obj):Below w.heap.size w (Go.Sort.grow (w.drewN k) os):=by
 refine⟨rfl,rfl,rfl,?_,fun i hi=>?_⟩
 ·simp[Go.Sort.grow,World.drewN]
 ·simp only[Go.Sort.grow]
  exact Array.getElem?_append_left hi
def upO:Q_:=b9O 281 up1
theorem c2i:a0c Tryz.prog upO:=b8n (mB:=Lib.upperB) c1Z (b1Y (by kernel_rfl)) fun s w hs ha=>Tryz.strings_ToUpper_ascii s w hs ha
def c2O:Q_:=b1O 320 9 kwN (kwL.map .str) 87
theorem c0G:a0c Tryz.prog c2O:=b5R (fun l hl x hx=>by
  have:=List.all_eq_true.1 (List.all_eq_true.1 b9k l hl) x hx
  simpa using this) (b1Y (by kernel_rfl)) fun s w ht hs=>by
 have hsz:s.size<4294967281:=by
  have h1:s.size=s.data.toList.length:=by rw[Array.length_toList];rfl
  have:=c1V
  rw[h1,hs,List.length_map]
  omega
 refine(Tryz.strings_Fields s w hsz ?_ (c2K ht)).mono ?_
 ·intro j b hj
  rw[hs] at hj
  have:=List.all_eq_true.1 a9p b (List.mem_of_getElem? hj)
  simpa using this
 ·rintro e w' ⟨rfl,rfl⟩
  rw[hs,b7N]
  refine⟨by rw[List.length_map],?_⟩
  rw[List.map_map]
  rfl
def itL:List (Value × List Nat):=[(.int .i64 (.ofNat 5),[53]),(.int .i64 (.negSucc 4),[45,53])]
def itO:Q_:=b9Q 119 itL
theorem c1C:a0c Tryz.prog itO:=b9g (fun p hp=>by
  unfold itL at hp
  simp only[List.mem_cons,List.not_mem_nil,or_false] at hp
  rcases hp with rfl|rfl
  ·exact⟨5,rfl,by decide,by decide,by decide +kernel,by decide⟩
  ·exact⟨-5,rfl,by decide,by decide,by decide +kernel,by decide⟩) (b1Y (by kernel_rfl)) fun n w h0 h1 ht=>
 (Tryz.strconv_Itoa n h0 h1 w (c1K ht)).mono fun e w' ⟨k1,k,os,k2⟩=>⟨k1,by rw[k2];exact b5l w k os⟩
def c2Q:Q_:=orO upO (orO c2O itO)
theorem c0q:a0c Tryz.prog c2Q:=b9T c2i (b9T c0G c1C)
end Go.Proofs.YtlimlmjljjmcpaaGreatDoor.Ax
