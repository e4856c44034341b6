import Derived.WalkKit
import Derived.Below
import Derived.ChangeOld
import Derived.DataReads
import Derived.DataShut
import Derived.Test.YtlimlmjljjmcpaaGreatDoorProg
import Derived.KernelRfl
import Derived.WalkSmall
import Derived.Deep.MidRow
import Derived.Great.CaseRows
import Derived.Lib.Hide
import Derived.StillTailTactics
import Derived.BigQuiet
import Derived.Deep.CutBlock
import Derived.Deep.CutRange
import Derived.Deep.AppendLies
import Derived.Deep.LoopGhost
import Derived.Lib.SliceRun
import Derived.Lib.Walk
namespace Go.Proofs.YtlimlmjljjmcpaaGreatDoor.Ps
open Go Go.RowKit
set_option linter.unusedVariables false
inductive C where
 |l (v:Value)
 |a (xs:List C)
 |s (xs:List C)
open Classical in
noncomputable def eqC (x y:C):Bool:=if x=y then true else false
theorem z_{x y:C}:eqC x y=true↔x=y:=by
 unfold eqC
 split<;>simp_all
theorem w_{x y:C}:eqC x y=false↔x ≠ y:=by
 unfold eqC
 split<;>simp_all
theorem a3h(x:C):eqC x x=true:=z_.2 rfl
inductive Rp(P:Program)(w:World):TypeId->List Value->C->Prop
 |int {t:TypeId} {k:IntKind} {n:Int} (h:P.underlying t=some (.int k)):Rp P w t [.int k n] (.l (.int k n))
 |bool {t:TypeId} {b:Bool} (h:P.underlying t=some .bool):Rp P w t [.bool b] (.l (.bool b))
 |string {t:TypeId} {s:ByteArray} (h:P.underlying t=some .string) (hs:s.size<=maxLen):Rp P w t [.string s] (.l (.string s))
 |nil {t e:TypeId} (h:P.underlying t=some (.slice e)):Rp P w t [.slice none 0 0] (.s [])
 |slice {t e:TypeId} {q:Addr} {len cap:Nat} {xs:List C} (f:Nat->List Value) (h:P.underlying t=some (.slice e)) (hc:len<=cap) (hm:cap<=maxLen) (hl:xs.length=len) (hb:len*P.bytesOf e<=reachBytes)
   (hr:∀i,i<len->w.cells? 0 (q.add (i*P.cellsOf e)) (P.cellsOf e)=some (f i)) (hx:∀i (hi:i<xs.length),Rp P w e (f i) xs[i]):Rp P w t [.slice (some q) len cap] (.s xs)
 |struct {t:TypeId} {fs:Array Field} {cs:List Value} {xs:List C} (h:P.underlying t=some (.struct fs)) (hn:cs.length=P.cellsOf t) (hl:xs.length=fs.size) (hcov:∀j,j<P.cellsOf t -> ∃i,∃h:i<fs.size,fs[i].offset<=j/\j<fs[i].offset+P.cellsOf fs[i].type)
   (hx:∀i (h1:i<fs.size) (h2:i<xs.length),Rp P w fs[i].type ((cs.drop fs[i].offset).take (P.cellsOf fs[i].type)) xs[i]):Rp P w t cs (.a xs)
inductive Fits{H:Type}:C->DataW H->Prop
 |int (k:IntKind) (n:Int) (hw:(Lit.int k n).wf=true):Fits (.l (.int k n)) (.lit (.int k n))
 |bool (b:Bool):Fits (.l (.bool b)) (.lit (.bool b))
 |str (s:ByteArray):Fits (.l (.string s)) (.lit (.string s.data.toList))
 |nil:Fits (.s []) .nil
 |s {xs:List C} {elems spare:List (DataW H)} (hl:xs.length=elems.length) (hx:∀i (h1:i<xs.length) (h2:i<elems.length),Fits xs[i] elems[i]):Fits (.s xs) (.slice elems spare)
 |a {xs:List C} {parts:List (DataW H)} (hl:xs.length=parts.length) (hx:∀i (h1:i<xs.length) (h2:i<parts.length),Fits xs[i] parts[i]):Fits (.a xs) (.agg parts)
section
variable {P:Program} {w w':World} {H:Type} {enc:TypeId × Value->H}
theorem mapM_some{α β:Type}{f:α->Option β}:∀ {l:List α} {r:List β},l.mapM f=some r->r.length=l.length /\ ∀i (h1:i<l.length) (h2:i<r.length),f l[i]=some r[i]
 |[],r,h=>by
  simp at h
  subst h
  exact⟨rfl,fun i h1=>absurd h1 (by simp)⟩
 |x::l,r,h=>by
  rw[List.mapM_cons] at h
  cases hx:f x with
  |none=>rw[hx] at h;cases h
  |some y=>
   rw[hx] at h
   cases hl:l.mapM f with
   |none=>rw[hl] at h;cases h
   |some r'=>
    rw[hl] at h
    cases h
    obtain⟨h1,h2⟩:=mapM_some hl
    refine⟨by simp[h1],fun i k1 k2=>?_⟩
    cases i with
    |zero=>exact hx
    |succ i=>exact h2 i (by simpa using k1) (by simpa using k2)
def c0d(P:Program)(S:List TypeId)(t:TypeId):Bool:=match P.underlying t with
 |some .bool=>true
 |some (.int _)=>true
 |some .string=>true
 |some (.slice e)=>S.contains e
 |some (.struct fs)=>(fs.toList.all fun f=>S.contains f.type)&&(List.range (P.cellsOf t)).all fun j=>fs.toList.any fun f=>decide (f.offset<=j)&&decide (j<f.offset+P.cellsOf f.type)
 |_=>false
def b8s(P:Program)(S:List TypeId):Bool:=S.all (c0d P S)
theorem a7E{e:TypeId}:∀ {l:List (DataW H)} {d:DataW H},d∈l -> ∀x∈DataW.weights P e d,x∈DataW.weightsAll P e l
 |[],d,h,x,hx=>by cases h
 |y::l,d,h,x,hx=>by
  unfold DataW.weightsAll
  rcases List.mem_cons.1 h with rfl|h
  ·exact List.mem_append_left _ hx
  ·exact List.mem_append_right _ (a7E h x hx)
theorem a8O:∀ {ts:List TypeId} {l:List (DataW H)} (i:Nat) (h1:i<ts.length) (h2:i<l.length),∀x∈DataW.weights P ts[i] l[i],x∈DataW.weightsEach P ts l
 |[],_,i,h1,_,x,hx=>absurd h1 (by simp)
 |_::_,[],i,_,h2,x,hx=>absurd h2 (by simp)
 |t::ts,d::l,0,_,_,x,hx=>by
  unfold DataW.weightsEach
  exact List.mem_append_left _ hx
 |t::ts,d::l,i+1,h1,h2,x,hx=>by
  unfold DataW.weightsEach
  exact List.mem_append_right _ (a8O i (by simpa using h1) (by simpa using h2) x hx)
theorem a5t{spare:Nat->Bool}{held:Bool}{S:List TypeId}(hS:b8s P S=true):∀(n:Nat) (t:TypeId) (cs:List Value) (y:DataW H × List MemPlace),t∈S->DataW.trod enc P w 0 spare held n t cs=some y->(∀x∈DataW.weights P t y.1,x<=reachBytes) -> ∃c,Rp P w t cs c/\Fits c y.1
 |0,t,cs,y,ht,h,hwt=>by cases h
 |n+1,t,cs,y,ht,h,hwt=>by
  have hp:=List.all_eq_true.1 hS t ht
  unfold c0d at hp
  unfold DataW.trod at h
  cases hu:P.underlying t with
  |none=>rw[hu] at hp;cases hp
  |some d=>
   rw[hu] at hp h
   cases d with
   |bool=>
    simp only at h
    split at h<;>(try cases h)<;>(try(cases ‹some TypeDesc.bool=some _›))
    all_goals exact⟨_,.bool hu,.bool _⟩
   |int k=>
    simp only at h
    split at h<;>(try cases h)<;>(try(cases ‹some (TypeDesc.int k)=some _›))
    split at h<;>cases h
    rename_i hk
    obtain⟨rfl,hw⟩:=hk
    exact⟨_,.int hu,.int _ _ hw⟩
   |string=>
    simp only at h
    split at h<;>(try cases h)<;>(try(cases ‹some TypeDesc.string=some _›))
    split at h<;>cases h
    rename_i hs
    exact⟨_,.string hu hs,.str _⟩
   |slice e=>
    have he:e∈S:=by simpa using hp
    simp only at h
    split at h<;>(try cases h)<;>(try(cases ‹some (TypeDesc.slice e)=some _›))
    ·exact⟨_,.nil hu,.nil⟩
    ·rename_i q len cap
     split at h<;>try cases h
     rename_i hb
     cases hm:((List.range len).mapM fun i=>(w.cells? 0 (q.add (i*P.cellsOf e)) (P.cellsOf e)).bind (DataW.trod enc P w 0 spare held n e)) with
     |none=>rw[hm] at h;cases h
     |some elems=>
      obtain⟨h1,h2⟩:=mapM_some hm
      rw[hm] at h
      simp only[Option.bind_some,Option.map_eq_some_iff] at h
      obtain⟨rest,_,rfl⟩:=h
      have hwt2:∀x∈(((elems.map (·.1)).length+(rest.map (·.1)).length)*P.bytesOf e::(DataW.weightsAll P e (elems.map (·.1))++DataW.weightsAll P e (rest.map (·.1)))),x<=reachBytes:=by
       intro x hx
       refine hwt x ?_
       unfold DataW.weights
       rw[hu]
       exact hx
      have hbound:len*P.bytesOf e<=reachBytes:=by
       refine Nat.le_trans (Nat.mul_le_mul_right _ ?_) (hwt2 _ (List.mem_cons_self ..))
       simp[h1]
      have each:∀i,∀hi:i<len,∃cs c,w.cells? 0 (q.add (i*P.cellsOf e)) (P.cellsOf e)=some cs/\Rp P w e cs c/\Fits c (elems[i]'(by rw[h1];simpa using hi)).1:=fun i hi=>by
       have:=h2 i (by simpa using hi) (by rw[h1];simpa using hi)
       rw[List.getElem_range] at this
       cases hc:w.cells? 0 (q.add (i*P.cellsOf e)) (P.cellsOf e) with
       |none=>rw[hc] at this;cases this
       |some cs=>
        rw[hc] at this
        obtain⟨c,hcr,hft⟩:=a5t hS n e cs _ he this (fun x hx=>hwt2 x (List.mem_cons_of_mem _ (List.mem_append_left _ (a7E (List.mem_map.2 ⟨_,List.getElem_mem (l:=elems) _,rfl⟩) x hx))))
        exact⟨cs,c,rfl,hcr,hft⟩
      have each2:∀i,∃p:List Value × C,∀hi:i<len,w.cells? 0 (q.add (i*P.cellsOf e)) (P.cellsOf e)=some p.1/\Rp P w e p.1 p.2/\Fits p.2 (elems[i]'(by rw[h1];simpa using hi)).1:=fun i=>by
       by_cases hi:i<len
       ·obtain⟨cs,c,k1,k2⟩:=each i hi
        exact⟨(cs,c),fun _=>⟨k1,k2⟩⟩
       ·exact⟨([],.a []),fun hh=>absurd hh hi⟩
      let f:=fun i=>Classical.choose (each2 i)
      have hf:∀i,∀hi:i<len,w.cells? 0 (q.add (i*P.cellsOf e)) (P.cellsOf e)=some (f i).1/\Rp P w e (f i).1 (f i).2/\Fits (f i).2 (elems[i]'(by rw[h1];simpa using hi)).1:=fun i=>Classical.choose_spec (each2 i)
      refine⟨.s ((List.range len).map fun i=>(f i).2),.slice (fun i=>(f i).1) hu hb.2.1 hb.2.2 (by simp) hbound (fun i hi=>(hf i hi).1) fun i hi=>?_,?_⟩
      ·simp only[List.getElem_map,List.getElem_range]
       exact(hf i (by simpa using hi)).2.1
      ·refine .s (by simp[h1]) fun i k1 k2=>?_
       simp only[List.getElem_map,List.getElem_range]
       exact(hf i (by simpa using k1)).2.2
   |struct fs=>
    have hp2:((fs.toList.all fun f=>S.contains f.type)&&(List.range (P.cellsOf t)).all fun j=>fs.toList.any fun f=>decide (f.offset<=j)&&decide (j<f.offset+P.cellsOf f.type))=true:=hp
    rw[Bool.and_eq_true] at hp2
    have hfs:∀f∈fs.toList,f.type∈S:=fun f hf=>by
     have:=List.all_eq_true.1 hp2.1 f hf
     simpa using this
    have hcov:∀j,j<P.cellsOf t -> ∃i,∃h:i<fs.size,fs[i].offset<=j/\j<fs[i].offset+P.cellsOf fs[i].type:=fun j hj=>by
     have:=List.all_eq_true.1 hp2.2 j (by simpa using hj)
     obtain⟨f,hf,h1⟩:=List.any_eq_true.1 this
     obtain⟨i,hi,rfl⟩:=List.getElem_of_mem hf
     simp only[Bool.and_eq_true,decide_eq_true_eq] at h1
     exact⟨i,by simpa using hi,by simpa using h1⟩
    simp only at h
    split at h<;>(try cases h)<;>(try(cases ‹some (TypeDesc.struct fs)=some _›))
    rename_i hn
    cases hm:(fs.toList.mapM fun f=>DataW.trod enc P w 0 spare held n f.type ((cs.drop f.offset).take (P.cellsOf f.type))) with
    |none=>rw[hm] at h;cases h
    |some elems=>
     obtain⟨h1,h2⟩:=mapM_some hm
     rw[hm] at h
     simp only[Option.map_some,Option.some.injEq] at h
     subst h
     have hwt2:∀x∈DataW.weightsEach P (fs.toList.map (·.type)) (elems.map (·.1)),x<=reachBytes:=by
      intro x hx
      refine hwt x ?_
      unfold DataW.weights
      rw[hu]
      exact hx
     have each:∀i,∃c:C,∀hi:i<fs.size,Rp P w fs[i].type ((cs.drop fs[i].offset).take (P.cellsOf fs[i].type)) c/\Fits c (elems[i]'(by rw[h1];simpa using hi)).1:=fun i=>by
      by_cases hi:i<fs.size
      ·have:=h2 i (by simpa using hi) (by rw[h1];simpa using hi)
       rw[Array.getElem_toList] at this
       obtain⟨c,hc,hft⟩:=a5t hS n _ _ _ (hfs fs[i] (by simp)) this (fun x hx=>hwt2 x (a8O i (by simpa using hi) (by simpa[h1] using hi) x (by simpa using hx)))
       exact⟨c,fun _=>⟨hc,hft⟩⟩
      ·exact⟨.a [],fun hh=>absurd hh hi⟩
     let f:=fun i=>Classical.choose (each i)
     refine⟨.a ((List.range fs.size).map f),.struct hu hn (by simp) hcov fun i k1 k2=>?_,?_⟩
     ·simp only[List.getElem_map,List.getElem_range]
      exact(Classical.choose_spec (each i) k1).1
     ·refine .a (by simp[h1]) fun i k1 k2=>?_
      simp only[List.getElem_map,List.getElem_range]
      exact(Classical.choose_spec (each i) (by simpa using k1)).2
   |_=>cases hp
theorem Rp.kept{n:Nat}(hb:Below n w w')(hn:w.heap.size<=n){t:TypeId}{cs:List Value}{c:C}(h:Rp P w t cs c):Rp P w' t cs c:=by
 induction h with
 |int h=>exact .int h
 |bool h=>exact .bool h
 |string h hs=>exact .string h hs
 |nil h=>exact .nil h
 |slice f h hc hm hl hb' hr hx ih=>
  refine .slice f h hc hm hl hb' (fun i hi=>?_) ih
  have h1:=hr i hi
  obtain⟨k1,k2,k3⟩:=World.cells?_some h1
  refine World.cells?_of_each k1 k2 fun j hj=>?_
  rw[<-k3 j hj]
  have hlt:=World.cells?_block h1 (by omega)
  refine hb.cell ?_
  have e1:∀(a:Addr) (k:Nat),(a.add k).block=a.block:=fun a k=>by
   unfold Addr.add
   first|rfl|(split<;>rfl)
  rw[e1]
  omega
 |struct h hn hl hcov hx ih=>exact .struct h hn hl hcov ih
theorem Rp.one{t:TypeId}{cs:List Value}{c:C}(h:Rp P w t cs c):∀u∈cs,u.oneCell'=true:=by
 induction h with
 |int h=>intro u hu;cases List.mem_singleton.1 hu;rfl
 |bool h=>intro u hu;cases List.mem_singleton.1 hu;rfl
 |string h hs=>intro u hu;cases List.mem_singleton.1 hu;rfl
 |nil h=>intro u hu;cases List.mem_singleton.1 hu;rfl
 |slice f h hc hm hl hb' hr hx ih=>intro u hu;cases List.mem_singleton.1 hu;rfl
 | @struct t fs cs xs h hn hl hcov hx ih=>
  intro u hu
  obtain⟨j,hj,rfl⟩:=List.getElem_of_mem hu
  obtain⟨i,hi,h1,h2⟩:=hcov j (by omega)
  refine ih i hi (by omega) _ ?_
  rw[List.mem_iff_getElem?]
  refine⟨j - fs[i].offset,?_⟩
  rw[List.getElem?_take,if_pos (by omega),List.getElem?_drop]
  have:fs[i].offset+(j - fs[i].offset)=j:=by omega
  rw[this]
  exact List.getElem?_eq_getElem hj
theorem add_block(a:Addr)(k:Nat):(a.add k).block=a.block:=by
 unfold Addr.add
 first|rfl|(split<;>rfl)
theorem add_add(a:Addr)(j k:Nat):(a.add j).add k=a.add (j+k):=by
 unfold Addr.add
 cases a with
 |mk b o s=>by_cases hj:j=0<;>by_cases hk:k=0<;>simp[hj,hk,Nat.add_assoc]
theorem b8i{q:Addr}{len m:Nat}{f:Nat->List Value}(hr:∀i,i<len->w.cells? 0 (q.add (i*m)) m=some (f i)):∃news:List Value,news.length=len*m/\(∀j u,news[j]? = some u->w.cell? (q.add j)=some u) /\ ∀u∈news,∃i,i<len/\u∈f i:=by
 induction len with
 |zero=>exact⟨[],by simp,fun j u h=>by simp at h,fun u h=>by cases h⟩
 |succ n ih=>
  obtain⟨l,h1,h2,h3⟩:=ih fun i hi=>hr i (by omega)
  obtain⟨_,k2,k3⟩:=World.cells?_some (hr n (by omega))
  refine⟨l++f n,by rw[List.length_append,h1,k2,Nat.succ_mul],fun j u hj=>?_,fun u hu=>?_⟩
  ·rcases Nat.lt_or_ge j l.length with hlt|hge
   ·rw[List.getElem?_append_left hlt] at hj
    exact h2 j u hj
   ·rw[List.getElem?_append_right hge] at hj
    have hlt:j - l.length<m:=by
     have:=(List.getElem?_eq_some_iff.1 hj).1
     omega
    have:=k3 (j - l.length) hlt
    rw[hj,add_add] at this
    rw[<-this]
    congr 2
    omega
  ·rcases List.mem_append.1 hu with hu|hu
   ·obtain⟨i,hi,h⟩:=h3 u hu
    exact⟨i,by omega,h⟩
   ·exact⟨n,by omega,hu⟩
theorem Rp.news{t e:TypeId}{q:Addr}{n m:Nat}{c:C}(hu:P.underlying t=some (.slice e))(h:Rp P w t [.slice (some q) n m] c):∃news:List Value,news.length=n*P.cellsOf e/\(∀j u,news[j]? = some u->w.cell? (q.add j)=some u)/\(∀u∈news,u.oneCell'=true)/\(0<news.length->q.block<w.heap.size):=by
 cases h with
 |struct h=>rw[hu] at h;cases h
 | @slice t e2 q2 len cap xs f h hc hm hl hb' hr hx=>
  rw[hu] at h
  cases h
  obtain⟨news,k1,k2,k3⟩:=b8i hr
  refine⟨news,k1,k2,fun u hu=>?_,fun hpos=>?_⟩
  ·obtain⟨i,hi,h1⟩:=k3 u hu
   exact(hx i (by omega)).one u h1
  ·rw[k1] at hpos
   have hn:0<n:=Nat.pos_of_ne_zero fun h0=>by subst h0;omega
   have hz:0<P.cellsOf e:=Nat.pos_of_ne_zero fun h0=>by rw[h0] at hpos;omega
   have:=World.cells?_block (hr 0 hn) hz
   rwa [add_block] at this
theorem Rp.a1N{t:TypeId}{k:IntKind}{cs:List Value}{c:C}(hu:P.underlying t=some (.int k))(h:Rp P w t cs c):∃n,cs=[.int k n]/\c=.l (.int k n):=by
 cases h with
 |int h=>rw[hu] at h;cases h;exact⟨_,rfl,rfl⟩
 |bool h=>rw[hu] at h;cases h
 |string h _=>rw[hu] at h;cases h
 |nil h=>rw[hu] at h;cases h
 |slice f h=>rw[hu] at h;cases h
 |struct h=>rw[hu] at h;cases h
theorem Rp.b8J{t:TypeId}{cs:List Value}{c:C}(hu:P.underlying t=some .bool)(h:Rp P w t cs c):∃b,cs=[.bool b]/\c=.l (.bool b):=by
 cases h with
 |int h=>rw[hu] at h;cases h
 |bool h=>exact⟨_,rfl,rfl⟩
 |string h _=>rw[hu] at h;cases h
 |nil h=>rw[hu] at h;cases h
 |slice f h=>rw[hu] at h;cases h
 |struct h=>rw[hu] at h;cases h
theorem Rp.a2L{t:TypeId}{cs:List Value}{c:C}(hu:P.underlying t=some .string)(h:Rp P w t cs c):∃s,cs=[.string s]/\c=.l (.string s)/\s.size<=maxLen:=by
 cases h with
 |int h=>rw[hu] at h;cases h
 |bool h=>rw[hu] at h;cases h
 |string h hs=>exact⟨_,rfl,rfl,hs⟩
 |nil h=>rw[hu] at h;cases h
 |slice f h=>rw[hu] at h;cases h
 |struct h=>rw[hu] at h;cases h
theorem Rp.I_{t e:TypeId}{cs:List Value}{c:C}(hu:P.underlying t=some (.slice e))(h:Rp P w t cs c):∃a n m xs,cs=[.slice a n m]/\c=.s xs/\xs.length=n/\n<=m/\m<=maxLen /\ ∀i (hi:i<xs.length),∃q us,a=some q/\w.cells? 0 (q.add (i*P.cellsOf e)) (P.cellsOf e)=some us/\Rp P w e us xs[i]:=by
 cases h with
 |int h=>rw[hu] at h;cases h
 |bool h=>rw[hu] at h;cases h
 |string h _=>rw[hu] at h;cases h
 |nil h=>exact⟨_,_,_,_,rfl,rfl,rfl,Nat.le_refl _,Nat.zero_le _,fun i hi=>absurd hi (by simp)⟩
 |slice f h hc hm hl hb' hr hx=>
  rw[hu] at h
  cases h
  exact⟨_,_,_,_,rfl,rfl,hl,hc,hm,fun i hi=>⟨_,_,rfl,hr i (by omega),hx i hi⟩⟩
 |struct h=>rw[hu] at h;cases h
theorem Rp.bound{t e:TypeId}{a:Option Addr}{n m:Nat}{c:C}(hu:P.underlying t=some (.slice e))(h:Rp P w t [.slice a n m] c):n*P.bytesOf e<=reachBytes:=by
 cases h with
 |nil h=>simp
 |slice f h hc hm hl hb' hr hx=>
  rw[hu] at h
  cases h
  exact hb'
 |struct h=>rw[hu] at h;cases h
theorem Rp.a2J{t:TypeId}{fs:Array Field}{cs:List Value}{c:C}(hu:P.underlying t=some (.struct fs))(h:Rp P w t cs c):∃xs,c=.a xs/\cs.length=P.cellsOf t/\xs.length=fs.size /\ ∀i (h1:i<fs.size) (h2:i<xs.length),Rp P w fs[i].type ((cs.drop fs[i].offset).take (P.cellsOf fs[i].type)) xs[i]:=by
 cases h with
 |int h=>rw[hu] at h;cases h
 |bool h=>rw[hu] at h;cases h
 |string h _=>rw[hu] at h;cases h
 |nil h=>rw[hu] at h;cases h
 |slice f h=>rw[hu] at h;cases h
 |struct h hn hl _ hx=>
  rw[hu] at h
  cases h
  exact⟨_,rfl,hn,hl,hx⟩
end
end Go.Proofs.YtlimlmjljjmcpaaGreatDoor.Ps
namespace Go.Proofs.YtlimlmjljjmcpaaGreatDoor.Ps
open Go Go.RowKit
set_option linter.unusedVariables false
set_option linter.unusedSimpArgs false
theorem a2K:Tryz.prog.cellsOf 23=3:=by kernel_rfl
theorem a3e:Tryz.prog.cellsOf 3=1:=by kernel_rfl
theorem a3G:Tryz.prog.cellsOf 9=1:=by kernel_rfl
theorem a0H:Tryz.prog.cellsOf 26=7:=by kernel_rfl
theorem a4D:Tryz.prog.cellsOf 24=1:=by kernel_rfl
theorem a0L:Tryz.prog.cellsOf 55=3:=by kernel_rfl
theorem a6l:Tryz.prog.cellsOf 4=1:=by kernel_rfl
theorem a0g:Tryz.prog.cellsOf 122=2:=by kernel_rfl
theorem a6q:Tryz.prog.cellsOf 50=1:=by kernel_rfl
theorem a2I:Tryz.prog.cellsOf 53=5:=by kernel_rfl
theorem a2H:Tryz.prog.cellsOf 49=1:=by kernel_rfl
theorem a2d:Tryz.prog.cellsOf 51=1:=by kernel_rfl
theorem a3s:Tryz.prog.cellsOf 37=3:=by kernel_rfl
theorem a3A:Tryz.prog.cellsOf 39=6:=by kernel_rfl
theorem a6o:Tryz.prog.cellsOf 171=10:=by kernel_rfl
theorem a5Y:Tryz.prog.cellsOf 175=14:=by kernel_rfl
theorem a3x:Tryz.prog.cellsOf 42=18:=by kernel_rfl
theorem a4H:Tryz.prog.cellsOf 35=1:=by kernel_rfl
theorem a4y:Tryz.prog.cellsOf 40=1:=by kernel_rfl
theorem a4E:Tryz.prog.cellsOf 115=2:=by kernel_rfl
theorem a4k:Tryz.prog.cellsOf 46=23:=by kernel_rfl
theorem a3v:Tryz.prog.cellsOf 43=1:=by kernel_rfl
theorem a3r:Tryz.prog.cellsOf 44=1:=by kernel_rfl
theorem a8J:Tryz.prog.cellsOf 87=8:=by kernel_rfl
theorem a3D:Tryz.prog.cellsOf 34=2:=by kernel_rfl
theorem a6B:Tryz.prog.cellsOf 59=4:=by kernel_rfl
theorem a5X:Tryz.prog.cellsOf 61=6:=by kernel_rfl
theorem a3y:Tryz.prog.cellsOf 57=9:=by kernel_rfl
theorem a1L:Tryz.prog.cellsOf 63=60:=by kernel_rfl
theorem a3q:Tryz.prog.cellsOf 47=1:=by kernel_rfl
theorem a5S:Tryz.prog.cellsOf 48=1:=by kernel_rfl
theorem ln2{α:Type}:∀ {l:List α},l.length=2 -> ∃a0 a1,l=[a0,a1]
 |[a0,a1],_=>⟨a0,a1,rfl⟩
theorem ln3{α:Type}:∀ {l:List α},l.length=3 -> ∃a0 a1 a2,l=[a0,a1,a2]
 |[a0,a1,a2],_=>⟨a0,a1,a2,rfl⟩
theorem ln5{α:Type}:∀ {l:List α},l.length=5 -> ∃a0 a1 a2 a3 a4,l=[a0,a1,a2,a3,a4]
 |[a0,a1,a2,a3,a4],_=>⟨a0,a1,a2,a3,a4,rfl⟩
theorem ln7{α:Type}:∀ {l:List α},l.length=7 -> ∃a0 a1 a2 a3 a4 a5 a6,l=[a0,a1,a2,a3,a4,a5,a6]
 |[a0,a1,a2,a3,a4,a5,a6],_=>⟨a0,a1,a2,a3,a4,a5,a6,rfl⟩
theorem b7z{w:World}{cs:List Value}{c:C}(h:Rp Tryz.prog w 23 cs c):∃(i0:Int) (i1:Int) (s2:ByteArray),cs=[.int .i64 i0,.int .i64 i1,.string s2]/\c=.a [.l (.int .i64 i0),.l (.int .i64 i1),.l (.string s2)]/\s2.size<=maxLen:=by
 obtain⟨ys,rfl,hn,hl,hx⟩:=h.a2J Tryz.underlying23
 obtain⟨y0,y1,y2,rfl⟩:=ln3 (hl.trans rfl)
 obtain⟨u0,u1,u2,rfl⟩:=ln3 (hn.trans a2K)
 have h0:=hx 0 (by decide) (by simp)
 have h1:=hx 1 (by decide) (by simp)
 have h2:=hx 2 (by decide) (by simp)
 clear hx h hl
 simp only[a3e,a3G,a6l,a2K,a0H,a4D,a0L,a0g,a6q,a2I,a2H,a2d,a3s,a3A,a6o,a5Y,a3x,a4H,a4y,a4E,a4k,a3v,a3r,a8J,a3D,a6B,a5X,a3y,a1L,a3q,a5S,List.getElem_toArray,List.getElem_cons_zero,List.getElem_cons_succ,List.drop_zero,List.drop_succ_cons,List.take_succ_cons,List.take_zero] at h0 h1 h2
 obtain⟨i0,e0,f0⟩:=h0.a1N Tryz.underlying3
 obtain⟨i1,e1,f1⟩:=h1.a1N Tryz.underlying3
 obtain⟨s2,e2,f2,g2⟩:=h2.a2L Tryz.underlying9
 subst f0
 cases e0
 subst f1
 cases e1
 subst f2
 cases e2
 exact⟨_,_,_,rfl,rfl,g2⟩
theorem a1y{w:World}{cs:List Value}{c:C}(h:Rp Tryz.prog w 55 cs c):∃(s0:ByteArray) (i1:Int) (b2:Bool),cs=[.string s0,.int .i64 i1,.bool b2]/\c=.a [.l (.string s0),.l (.int .i64 i1),.l (.bool b2)]/\s0.size<=maxLen:=by
 obtain⟨ys,rfl,hn,hl,hx⟩:=h.a2J Tryz.underlying55
 obtain⟨y0,y1,y2,rfl⟩:=ln3 (hl.trans rfl)
 obtain⟨u0,u1,u2,rfl⟩:=ln3 (hn.trans a0L)
 have h0:=hx 0 (by decide) (by simp)
 have h1:=hx 1 (by decide) (by simp)
 have h2:=hx 2 (by decide) (by simp)
 clear hx h hl
 simp only[a3e,a3G,a6l,a2K,a0H,a4D,a0L,a0g,a6q,a2I,a2H,a2d,a3s,a3A,a6o,a5Y,a3x,a4H,a4y,a4E,a4k,a3v,a3r,a8J,a3D,a6B,a5X,a3y,a1L,a3q,a5S,List.getElem_toArray,List.getElem_cons_zero,List.getElem_cons_succ,List.drop_zero,List.drop_succ_cons,List.take_succ_cons,List.take_zero] at h0 h1 h2
 obtain⟨s0,e0,f0,g0⟩:=h0.a2L Tryz.underlying9
 obtain⟨i1,e1,f1⟩:=h1.a1N Tryz.underlying3
 obtain⟨b2,e2,f2⟩:=h2.b8J Tryz.underlying4
 subst f0
 cases e0
 subst f1
 cases e1
 subst f2
 cases e2
 exact⟨_,_,_,rfl,rfl,g0⟩
theorem a0Q{w:World}{cs:List Value}{c:C}(h:Rp Tryz.prog w 26 cs c):∃(i0:Int) (i1:Int) (i2_0:Int) (i2_1:Int) (s2_2:ByteArray) (s3:ByteArray) (q4:Option Addr) (n4:Nat) (m4:Nat) (x4:List C),cs=[.int .i64 i0,.int .i64 i1,.int .i64 i2_0,.int .i64 i2_1,.string s2_2,.string s3,.slice q4 n4 m4]/\c=.a [.l (.int .i64 i0),.l (.int .i64 i1),.a [.l (.int .i64 i2_0),.l (.int .i64 i2_1),.l (.string s2_2)],.l (.string s3),.s x4]/\s2_2.size<=maxLen/\s3.size<=maxLen/\x4.length=n4/\Rp Tryz.prog w 24 [.slice q4 n4 m4] (.s x4):=by
 obtain⟨ys,rfl,hn,hl,hx⟩:=h.a2J Tryz.underlying26
 obtain⟨y0,y1,y2,y3,y4,rfl⟩:=ln5 (hl.trans rfl)
 obtain⟨u0,u1,u2,u3,u4,u5,u6,rfl⟩:=ln7 (hn.trans a0H)
 have h0:=hx 0 (by decide) (by simp)
 have h1:=hx 1 (by decide) (by simp)
 have h2:=hx 2 (by decide) (by simp)
 have h3:=hx 3 (by decide) (by simp)
 have h4:=hx 4 (by decide) (by simp)
 clear hx h hl
 simp only[a3e,a3G,a6l,a2K,a0H,a4D,a0L,a0g,a6q,a2I,a2H,a2d,a3s,a3A,a6o,a5Y,a3x,a4H,a4y,a4E,a4k,a3v,a3r,a8J,a3D,a6B,a5X,a3y,a1L,a3q,a5S,List.getElem_toArray,List.getElem_cons_zero,List.getElem_cons_succ,List.drop_zero,List.drop_succ_cons,List.take_succ_cons,List.take_zero] at h0 h1 h2 h3 h4
 obtain⟨i0,e0,f0⟩:=h0.a1N Tryz.underlying3
 obtain⟨i1,e1,f1⟩:=h1.a1N Tryz.underlying3
 obtain⟨i2_0,i2_1,s2_2,e2,f2,g2_0⟩:=b7z h2
 obtain⟨s3,e3,f3,g3⟩:=h3.a2L Tryz.underlying9
 obtain⟨q4,n4,m4,x4,e4,f4,l4,lm4,_⟩:=h4.I_ Tryz.underlying24
 subst f0
 cases e0
 subst f1
 cases e1
 subst f2
 cases e2
 subst f3
 cases e3
 subst f4
 cases e4
 exact⟨_,_,_,_,_,_,_,_,_,_,rfl,rfl,g2_0,g3,l4,h4⟩
theorem a0A{w:World}{cs:List Value}{c:C}(h:Rp Tryz.prog w 122 cs c):∃(q0:Option Addr) (n0:Nat) (m0:Nat) (x0:List C) (s1:ByteArray),cs=[.slice q0 n0 m0,.string s1]/\c=.a [.s x0,.l (.string s1)]/\x0.length=n0/\Rp Tryz.prog w 50 [.slice q0 n0 m0] (.s x0)/\s1.size<=maxLen:=by
 obtain⟨ys,rfl,hn,hl,hx⟩:=h.a2J Tryz.underlying122
 obtain⟨y0,y1,rfl⟩:=ln2 (hl.trans rfl)
 obtain⟨u0,u1,rfl⟩:=ln2 (hn.trans a0g)
 have h0:=hx 0 (by decide) (by simp)
 have h1:=hx 1 (by decide) (by simp)
 clear hx h hl
 simp only[a3e,a3G,a6l,a2K,a0H,a4D,a0L,a0g,a6q,a2I,a2H,a2d,a3s,a3A,a6o,a5Y,a3x,a4H,a4y,a4E,a4k,a3v,a3r,a8J,a3D,a6B,a5X,a3y,a1L,a3q,a5S,List.getElem_toArray,List.getElem_cons_zero,List.getElem_cons_succ,List.drop_zero,List.drop_succ_cons,List.take_succ_cons,List.take_zero] at h0 h1
 obtain⟨q0,n0,m0,x0,e0,f0,l0,lm0,_⟩:=h0.I_ Tryz.underlying50
 obtain⟨s1,e1,f1,g1⟩:=h1.a2L Tryz.underlying9
 subst f0
 cases e0
 subst f1
 cases e1
 exact⟨_,_,_,_,_,rfl,rfl,l0,h0,g1⟩
theorem a2z{w:World}{cs:List Value}{c:C}(h:Rp Tryz.prog w 53 cs c):∃(s0:ByteArray) (q1:Option Addr) (n1:Nat) (m1:Nat) (x1:List C) (q2:Option Addr) (n2:Nat) (m2:Nat) (x2:List C) (q3:Option Addr) (n3:Nat) (m3:Nat) (x3:List C) (q4:Option Addr) (n4:Nat) (m4:Nat) (x4:List C),cs=[.string s0,.slice q1 n1 m1,.slice q2 n2 m2,.slice q3 n3 m3,.slice q4 n4 m4]/\c=.a [.l (.string s0),.s x1,.s x2,.s x3,.s x4]/\s0.size<=maxLen/\x1.length=n1/\Rp Tryz.prog w 49 [.slice q1 n1 m1] (.s x1)/\x2.length=n2/\Rp Tryz.prog w 50 [.slice q2 n2 m2] (.s x2)/\x3.length=n3/\Rp Tryz.prog w 51 [.slice q3 n3 m3] (.s x3)/\x4.length=n4/\Rp Tryz.prog w 24 [.slice q4 n4 m4] (.s x4):=by
 obtain⟨ys,rfl,hn,hl,hx⟩:=h.a2J Tryz.underlying53
 obtain⟨y0,y1,y2,y3,y4,rfl⟩:=ln5 (hl.trans rfl)
 obtain⟨u0,u1,u2,u3,u4,rfl⟩:=ln5 (hn.trans a2I)
 have h0:=hx 0 (by decide) (by simp)
 have h1:=hx 1 (by decide) (by simp)
 have h2:=hx 2 (by decide) (by simp)
 have h3:=hx 3 (by decide) (by simp)
 have h4:=hx 4 (by decide) (by simp)
 clear hx h hl
 simp only[a3e,a3G,a6l,a2K,a0H,a4D,a0L,a0g,a6q,a2I,a2H,a2d,a3s,a3A,a6o,a5Y,a3x,a4H,a4y,a4E,a4k,a3v,a3r,a8J,a3D,a6B,a5X,a3y,a1L,a3q,a5S,List.getElem_toArray,List.getElem_cons_zero,List.getElem_cons_succ,List.drop_zero,List.drop_succ_cons,List.take_succ_cons,List.take_zero] at h0 h1 h2 h3 h4
 obtain⟨s0,e0,f0,g0⟩:=h0.a2L Tryz.underlying9
 obtain⟨q1,n1,m1,x1,e1,f1,l1,lm1,_⟩:=h1.I_ Tryz.underlying49
 obtain⟨q2,n2,m2,x2,e2,f2,l2,lm2,_⟩:=h2.I_ Tryz.underlying50
 obtain⟨q3,n3,m3,x3,e3,f3,l3,lm3,_⟩:=h3.I_ Tryz.underlying51
 obtain⟨q4,n4,m4,x4,e4,f4,l4,lm4,_⟩:=h4.I_ Tryz.underlying24
 subst f0
 cases e0
 subst f1
 cases e1
 subst f2
 cases e2
 subst f3
 cases e3
 subst f4
 cases e4
 exact⟨_,_,_,_,_,_,_,_,_,_,_,_,_,_,_,_,_,rfl,rfl,g0,l1,h1,l2,h2,l3,h3,l4,h4⟩
end Go.Proofs.YtlimlmjljjmcpaaGreatDoor.Ps
namespace Go.Proofs.YtlimlmjljjmcpaaGreatDoor.Ps
open Go Go.RowKit
set_option linter.unusedVariables false
noncomputable def eqL:List C->List C->Bool
 |[],[]=>true
 |x::xs,y::ys=>eqC x y&&eqL xs ys
 |_,_=>false
theorem Z_:∀ {xs ys:List C},eqL xs ys=true↔xs=ys
 |[],[]=>by simp[eqL]
 |[],_::_=>by simp[eqL]
 |_::_,[]=>by simp[eqL]
 |x::xs,y::ys=>by
  simp only[eqL,Bool.and_eq_true,z_,Z_,List.cons.injEq]
theorem a0P(xs:List C):eqL xs xs=true:=Z_.2 rfl
theorem a1I{xs ys:List C}{k:Nat}(hx:k<xs.length)(hy:k<ys.length)(h:eqC xs[k] ys[k]=false):eqL xs ys=false:=by
 cases e:eqL xs ys with
 |false=>rfl
 |true=>
  have e1:=Z_.1 e
  subst e1
  rw[a3h] at h
  cases h
def upTo(xs ys:List C)(k:Nat):Prop:=∀i (hx:i<xs.length) (hy:i<ys.length),i<k->eqC xs[i] ys[i]=true
theorem a1l(xs ys:List C):upTo xs ys 0:=fun _ _ _ h=>absurd h (by omega)
theorem a1g{xs ys:List C}{k:Nat}(h:upTo xs ys k)(hx:k<xs.length)(hy:k<ys.length)(hk:eqC xs[k] ys[k]=true):upTo xs ys (k+1):=fun i h1 h2 h3=>by
 rcases Nat.lt_or_ge i k with hlt|hge
 ·exact h i h1 h2 hlt
 ·obtain rfl:i=k:=by omega
  exact hk
theorem a1G{xs ys:List C}{k:Nat}(h:upTo xs ys k)(hx:xs.length=k)(hy:ys.length=k):eqL xs ys=true:=by
 rw[Z_]
 exact List.ext_getElem (by omega) fun i h1 h2=>z_.1 (h i h1 h2 (by omega))
end Go.Proofs.YtlimlmjljjmcpaaGreatDoor.Ps
namespace Go.Proofs.YtlimlmjljjmcpaaGreatDoor.Ps
open Go Go.RowKit
set_option linter.unusedVariables false
set_option linter.unusedSimpArgs false
def g_(w:World)(x y:C)(e:Ending)(w':World):Prop:=e=.returned (.bool (eqC x y))/\Below w.heap.size w w'
theorem g_.yes{w w':World}{x y:C}(h:x=y)(hb:Below w.heap.size w w'):g_ w x y (.returned (.bool true)) w':=⟨by rw[z_.2 h],hb⟩
theorem g_.no{w w':World}{x y:C}(h:x ≠ y)(hb:Below w.heap.size w w'):g_ w x y (.returned (.bool false)) w':=⟨by rw[w_.2 h],hb⟩
theorem toList_inj{a b:ByteArray}(h:a.toList=b.toList):a=b:=by
 rw[Lib.toList_data,Lib.toList_data] at h
 cases a
 cases b
 congr
 exact Array.toList_inj.1 h
theorem F_{a b:ByteArray}:a.toList=b.toList↔a=b:=⟨toList_inj,fun h=>by rw[h]⟩
theorem a0i{w:World}{t e:TypeId}{a:Option Addr}{n m k z:Nat}{xs:List C}(hu:Tryz.prog.underlying t=some (.slice e))(hz:Tryz.prog.cellsOf e=z)(hz0:0<z)(h:Rp Tryz.prog w t [.slice a n m] (.s xs))(hk:k<n) :
  ∃b o us,a=some ⟨b,o,none⟩/\b<w.heap.size/\us.length=z/\(∀j u,us[j]? = some u->w.cell? ⟨b,o+k*z+j,none⟩=some u) /\ ∃hx:k<xs.length,Rp Tryz.prog w e us xs[k]:=by
 obtain⟨a',n',m',xs',e1,e2,e3,_,_,hx⟩:=h.I_ hu
 cases e1
 cases e2
 obtain⟨q,us,h1,h2,h3⟩:=hx k (by omega)
 obtain⟨q0,us0,k1,k2,_⟩:=hx 0 (by omega)
 rw[h1] at k1
 cases k1
 rw[hz] at h2 k2
 obtain⟨_,l2,l3⟩:=World.cells?_some h2
 obtain⟨_,m2,m3⟩:=World.cells?_some k2
 have hblk:=World.cells?_block h2 hz0
 obtain⟨b,o,s⟩:=q
 have hs:s=none:=by
  have h0:=m3 0 hz0
  rw[List.getElem?_eq_getElem (by omega),Nat.zero_mul] at h0
  cases s with
  |none=>rfl
  |some r=>
   exfalso
   have e0:((⟨b,o,some r⟩:Addr).add 0).add 0=⟨b,o,some r⟩:=by simp[Addr.add]
   rw[e0] at h0
   unfold World.cell? at h0
   split at h0
   ·simp at h0
   ·cases h0
 subst hs
 rw[add_block] at hblk
 refine⟨b,o,us,h1,hblk,l2,fun j u hj=>?_,by omega,h3⟩
 have hj':=(List.getElem?_eq_some_iff.1 hj).1
 have:=l3 j (by omega)
 rw[hj,Addr.add_lit,Addr.add_lit] at this
 exact this
theorem H_{w:World}{t e:TypeId}{a:Option Addr}{n m z:Nat}{xs:List C}(hu:Tryz.prog.underlying t=some (.slice e))(hz:Tryz.prog.bytesOf e=z)(hz0:0<z)(h:Rp Tryz.prog w t [.slice a n m] (.s xs)):xs.length=n/\n<=140737488351232:=by
 have hb:=h.bound hu
 rw[hz] at hb
 obtain⟨a',n',m',xs',e1,e2,e3,e4,e5,_⟩:=h.I_ hu
 cases e1
 cases e2
 exact⟨e3,Nat.le_trans (Nat.le_mul_of_pos_right _ hz0) hb⟩
def Blk(w:World)(g:Nat)(cs:List Value)(t:TypeId):Prop:=w.heap[g]? = some (.cells cs.toArray t (0,0))
section
variable {w0 w w':World} {g:Nat} {cs:List Value} {t:TypeId}
theorem Blk.new(w:World)(cs:List Value)(t:TypeId):Blk (w.alloc (.cells cs.toArray t)) w.heap.size cs t:=heap_alloc_new w _
theorem Blk.lt(h:Blk w g cs t):g<w.heap.size:=by
 rcases Nat.lt_or_ge g w.heap.size with hlt|hge
 ·exact hlt
 ·unfold Blk at h;rw[Array.getElem?_eq_none hge] at h;cases h
theorem Blk.grown{q:Nat}(h:Blk w g cs t)(hg:w.grownBy w' (some q))(hne:g ≠ q):Blk w' g cs t:=(hg.block g h.lt (by simpa using hne)).trans h
theorem Blk.below(h:Blk w g cs t)(hb:Below w.heap.size w w'):Blk w' g cs t:=(hb.block _ h.lt).trans h
theorem Blk.alloc(h:Blk w g cs t)(o:Obj):Blk (w.alloc o) g cs t:=h.below ((Below.refl _ _).alloc (Nat.le_refl _) _)
theorem Blk.drewN(h:Blk w g cs t)(k:Nat):Blk (w.drewN k) g cs t:=h
theorem Blk.cell(h:Blk w g cs t)(k:Nat){u:Value}(hu:cs[k]? = some u):w.cell? ⟨g,k,none⟩=some u:=by
 unfold Blk at h
 rw[cell_of_row w g k _ _ (0,0) h]
 simpa using hu
theorem Blk.free(h:Blk w g cs t)(k:Nat):w.frozen? ⟨g,k,none⟩=false:=by unfold Blk at h;simp[World.frozen?,h]
theorem Blk.set(h:Blk w g cs t)(k:Nat)(u:Value):Blk (w.setCell ⟨g,k,none⟩ u) g (cs.set k u) t:=by
 unfold Blk at h |-
 simp[World.setCell,Array.getElem?_modify,h]
theorem Blk.range(h:Blk w g cs t)(o m:Nat):w.rangeAt g o ((cs.drop o).take m):=fun k u hk=>by
 rw[List.getElem?_take] at hk
 split at hk
 ·rw[List.getElem?_drop] at hk
  exact h.cell _ hk
 ·cases hk
end
section
variable {P:Program} {ops:Array Oper} {rest:List Oper} {o:Oper} {a:Act} {w:World} {Q:Exit->Act->World->Prop}
theorem b1x(w:World)(g:Nat)(cs:Array Value):w.grownBy (w.setRow g cs) (some g)/\(w.setRow g cs).heap.size=w.heap.size:=by
 refine⟨⟨rfl,rfl,rfl,?_,fun i hi hne=>?_⟩,?_⟩
 ·simp[World.setRow]
 ·have:g ≠ i:=fun e=>hne (by rw[e])
  simp[World.setRow,Array.getElem?_modify,this]
 ·simp[World.setRow]
theorem a2y(hgd:o.guard=none)(ty:TypeId)(x y:Operand)(ho:o.op=.store ty x y)(g:Nat)(cs:List Value)(hx:a.eval x=.pointer (some ⟨g,0,none⟩))(hy:a.eval y=.agg cs.toArray)(t:TypeId)(old:List Value)(hg:Blk w g old t)(hi:(P.info? ty).map (·.size)=some cs.length)(hold:old.length=cs.length)(h1:∀u∈cs,u.oneCell'=true)(h:∀w',Blk w' g cs t->w.grownBy w' (some g)->w'.heap.size=w.heap.size->wpList P ops Q rest (a.put o.dst undef) w'):wpList P ops Q (o::rest) a w:=by
 obtain⟨k1,k2⟩:=b1x w g cs.toArray
 refine wpList_store_row hgd ty x y ho g cs.toArray hx hy t old.toArray hg (by simpa using hi) (by simpa using hold) (all_oneCell_toArray h1) (h _ ?_ k1 k2)
 unfold Blk at hg |-
 simp[World.setRow,Array.getElem?_modify,hg]
end
section
variable {K:World->Prop} {w:World}
theorem b5u{cs:List Value}{t:TypeId}(h:∀w',Blk w' w.heap.size cs t->Below w.heap.size w w'->w'.heap.size=w.heap.size+1->K w'):K (w.alloc (.cells cs.toArray t)):=
 h _ (Blk.new w cs t) ((Below.refl _ _).alloc (Nat.le_refl _) _) (by simp)
theorem a1B{cs1 cs2:List Value}{t1 t2:TypeId}(h:∀w',Blk w' w.heap.size cs1 t1->Blk w' (w.heap.size+1) cs2 t2->Below w.heap.size w w'->w'.heap.size=w.heap.size+1+1->K w'):K ((w.alloc (.cells cs1.toArray t1)).alloc (.cells cs2.toArray t2)):=by
 refine h _ ((Blk.new w cs1 t1).alloc _) ?_ (((Below.refl _ _).alloc (Nat.le_refl _) _).alloc (by simp) _) (by simp)
 have:=Blk.new (w.alloc (.cells cs1.toArray t1)) cs2 t2
 rwa [show(w.alloc (.cells cs1.toArray t1)).heap.size=w.heap.size+1 by simp] at this
theorem a0X{cs1 cs2 cs3:List Value}{t1 t2 t3:TypeId}(h:∀w',Blk w' w.heap.size cs1 t1->Blk w' (w.heap.size+1) cs2 t2->Blk w' (w.heap.size+1+1) cs3 t3->Below w.heap.size w w'->w'.heap.size=w.heap.size+1+1+1->K w'):K (((w.alloc (.cells cs1.toArray t1)).alloc (.cells cs2.toArray t2)).alloc (.cells cs3.toArray t3)):=by
 refine h _ (((Blk.new w cs1 t1).alloc _).alloc _) ?_ ?_ ((((Below.refl _ _).alloc (Nat.le_refl _) _).alloc (by simp) _).alloc (by simp;omega) _) (by simp)
 ·have:=Blk.new (w.alloc (.cells cs1.toArray t1)) cs2 t2
  rw[show(w.alloc (.cells cs1.toArray t1)).heap.size=w.heap.size+1 by simp] at this
  exact this.alloc _
 ·have:=Blk.new ((w.alloc (.cells cs1.toArray t1)).alloc (.cells cs2.toArray t2)) cs3 t3
  rwa [show((w.alloc (.cells cs1.toArray t1)).alloc (.cells cs2.toArray t2)).heap.size=w.heap.size+1+1 by simp] at this
theorem d_(w:World)(o:Obj):Below w.heap.size w (w.alloc o):=(Below.refl _ _).alloc (Nat.le_refl _) _
end
theorem a4K{w:World}{b:Nat}{e:TypeId}{size n:Nat}{v:Value}{xs:List Value}(h:w.ownsRow b e size v n xs):∃A m c,v=.slice A m c:=by
 rcases h.2 with⟨rfl,_⟩|⟨g,cap,cur,rfl,_⟩
 ·exact⟨_,_,_,rfl⟩
 ·exact⟨_,_,_,rfl⟩
theorem a8j{w:World}{base:Nat}{e:TypeId}{size n m c:Nat}{A:Option Addr}{xs:List Value}(h:w.ownsRow base e size (.slice A m c) n xs):m=n:=by
 rcases h.2 with⟨h0,h1⟩|⟨g,cap,cur,hv,_⟩
 ·injection h0 with _ h2;rw[h2,h1]
 ·injection hv
theorem a0r{w w':World}{base:Nat}{e:TypeId}{size n:Nat}{v:Value}{xs:List Value}(h:w.ownsRow base e size v n xs)(hb:Below w.heap.size w w'):w'.ownsRow base e size v n xs:=
 h.kept (w':=w') (row:=none) ⟨hb.os,hb.tape,hb.output,hb.size,fun i hi _=>hb.block i hi⟩ (by rcases v.ownBlock with _|g;exact .inl rfl;exact .inr (by simp))
section
variable {P:Program} {ops:Array Oper} {rest:List Oper} {o:Oper} {a:Act} {w:World} {Q:Exit->Act->World->Prop}
theorem a0G(hg:o.guard=none)(t:TypeId)(x:Operand)(ho:o.op=.box t x)(cs:List Value)(hx:a.eval x=.agg cs.toArray)(h:∀w',Blk w' w.heap.size cs t->Below w.heap.size w w'->w'.heap.size=w.heap.size+1->wpList P ops Q rest (a.put o.dst (.pointer (some ⟨w.heap.size,0,none⟩))) w'):wpList P ops Q (o::rest) a w:=
 Go.Great.wpList_boxTo hg t x ho _ rfl _ rfl cs.toArray (by rw[hx];rfl) (h _ (Blk.new w cs t) (d_ _ _) (by simp))
theorem T_(hw:Region.wanted o (yielded ops a.tmps)=true)(h:wpList P ops Q ({o with guard:=none}::rest) a w):wpList P ops Q (o::rest) a w:=
 by
  unfold wpList at h |-
  rw[if_pos (by simp[Region.wanted])] at h
  rw[if_pos hw]
  exact h
end
theorem a4N{n:Nat}(w:World)(o:Obj)(h:n<=w.heap.size:=by simp):Below n w (w.alloc o):=(Below.refl _ _).alloc h _
theorem belowD(w:World)(k:Nat):Below w.heap.size w (w.drewN k):=⟨rfl,rfl,rfl,Nat.le_refl _,fun _ _=>rfl⟩
theorem a0q{w:World}{K:World->Prop}{k:Nat}(h:∀w',Below w.heap.size w w'->w'.heap.size=w.heap.size->K w'):K (w.drewN k):=
 h _ (belowD w k) rfl
theorem Blk.all{w:World}{g:Nat}{t:TypeId}{cs:List Value}(h:Blk w g cs t):w.rangeAt g 0 cs:=fun j u hj=>by
 rw[Nat.zero_add]
 exact h.cell j hj
theorem Blk.part{w:World}{g:Nat}{t:TypeId}{cs:List Value}(h:Blk w g cs t)(o m:Nat):w.rangeAt g o ((cs.drop o).take m):=h.range o m
theorem h_{p:Prop}(h:p):Hid p:=h
theorem t_{w w1 w2:World}(H:Hid (Below w.heap.size w w1))(h:Below w1.heap.size w1 w2):Hid (Below w.heap.size w w2):=h_ (H.out.trans (h.mono H.out.size))
theorem nA{P:Program}{c:Code}{Q:Exit->Act->World->Prop}{a:Act}{w:World}{cs:List Value}{t:TypeId}(h:∀w',Blk w' w.heap.size cs t->Below w.heap.size w w'->w'.heap.size=w.heap.size+1->Code.wp P c Q a w'):Code.wp P c Q a (w.alloc (.cells cs.toArray t)):=b5u (K:=Code.wp P c Q a) h
theorem nB{P:Program}{c:Code}{Q:Exit->Act->World->Prop}{a:Act}{w:World}{cs1 cs2:List Value}{t1 t2:TypeId}(h:∀w',Blk w' w.heap.size cs1 t1->Blk w' (w.heap.size+1) cs2 t2->Below w.heap.size w w'->w'.heap.size=w.heap.size+1+1->Code.wp P c Q a w'):Code.wp P c Q a ((w.alloc (.cells cs1.toArray t1)).alloc (.cells cs2.toArray t2)):=a1B (K:=Code.wp P c Q a) h
theorem Blk.c3{w:World}{g:Nat}{a0 a1 a2:Value}{t:TypeId}(h:Blk w g [a0,a1,a2] t):w.cell? ⟨g,0,none⟩=some a0/\w.cell? ⟨g,1,none⟩=some a1/\w.cell? ⟨g,2,none⟩=some a2:=⟨h.cell 0 rfl,h.cell 1 rfl,h.cell 2 rfl⟩
theorem Blk.c5{w:World}{g:Nat}{a0 a1 a2 a3 a4:Value}{t:TypeId}(h:Blk w g [a0,a1,a2,a3,a4] t):w.cell? ⟨g,0,none⟩=some a0/\w.cell? ⟨g,1,none⟩=some a1/\w.cell? ⟨g,2,none⟩=some a2/\w.cell? ⟨g,3,none⟩=some a3/\w.cell? ⟨g,4,none⟩=some a4:=⟨h.cell 0 rfl,h.cell 1 rfl,h.cell 2 rfl,h.cell 3 rfl,h.cell 4 rfl⟩
theorem Blk.c7{w:World}{g:Nat}{a0 a1 a2 a3 a4 a5 a6:Value}{t:TypeId}(h:Blk w g [a0,a1,a2,a3,a4,a5,a6] t):w.cell? ⟨g,0,none⟩=some a0/\w.cell? ⟨g,1,none⟩=some a1/\w.cell? ⟨g,2,none⟩=some a2/\w.cell? ⟨g,3,none⟩=some a3/\w.cell? ⟨g,4,none⟩=some a4/\w.cell? ⟨g,5,none⟩=some a5/\w.cell? ⟨g,6,none⟩=some a6:=⟨h.cell 0 rfl,h.cell 1 rfl,h.cell 2 rfl,h.cell 3 rfl,h.cell 4 rfl,h.cell 5 rfl,h.cell 6 rfl⟩
theorem Blk.f3{w:World}{g:Nat}{a0 a1 a2:Value}{t:TypeId}(h:Blk w g [a0,a1,a2] t):w.cell? ⟨g,0,none⟩=some a0/\w.cell? ⟨g,1,none⟩=some a1/\w.cell? ⟨g,2,none⟩=some a2/\w.frozen? ⟨g,0,none⟩=false/\w.frozen? ⟨g,1,none⟩=false/\w.frozen? ⟨g,2,none⟩=false:=⟨h.cell 0 rfl,h.cell 1 rfl,h.cell 2 rfl,h.free 0,h.free 1,h.free 2⟩
theorem Blk.f7{w:World}{g:Nat}{a0 a1 a2 a3 a4 a5 a6:Value}{t:TypeId}(h:Blk w g [a0,a1,a2,a3,a4,a5,a6] t):w.cell? ⟨g,0,none⟩=some a0/\w.cell? ⟨g,1,none⟩=some a1/\w.cell? ⟨g,2,none⟩=some a2/\w.cell? ⟨g,3,none⟩=some a3/\w.cell? ⟨g,4,none⟩=some a4/\w.cell? ⟨g,5,none⟩=some a5/\w.cell? ⟨g,6,none⟩=some a6/\w.frozen? ⟨g,0,none⟩=false/\w.frozen? ⟨g,1,none⟩=false/\w.frozen? ⟨g,2,none⟩=false/\w.frozen? ⟨g,3,none⟩=false/\w.frozen? ⟨g,4,none⟩=false/\w.frozen? ⟨g,5,none⟩=false/\w.frozen? ⟨g,6,none⟩=false:=⟨h.cell 0 rfl,h.cell 1 rfl,h.cell 2 rfl,h.cell 3 rfl,h.cell 4 rfl,h.cell 5 rfl,h.cell 6 rfl,h.free 0,h.free 1,h.free 2,h.free 3,h.free 4,h.free 5,h.free 6⟩
end Go.Proofs.YtlimlmjljjmcpaaGreatDoor.Ps
