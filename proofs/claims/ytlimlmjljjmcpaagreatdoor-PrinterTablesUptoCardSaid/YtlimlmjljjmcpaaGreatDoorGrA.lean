import Derived.StillTail
import Derived.StillTactics
import Derived.Below
import Derived.Deep.MidRow
set_option linter.unusedVariables false
namespace Go.Proofs.YtlimlmjljjmcpaaGreatDoor.Gr
open Go
section
variable {P:Program} {ops:Array Oper} {md:Region.Mode} {I:World->Prop}
def grown(P:Program)(I:World->Prop)(w:World)(v:Value):Result Next->Prop
 |.ok (.value u) w'=>w'=w/\u=v
 |.ok .skip w'=>w'=w/\undef=v
 |.ok (.enter f args) w'=>w'=w/\Calls P f args w fun e w''=>e=.returned v/\I w''
 |_=>False
def Says(P:Program)(ops:Array Oper)(I:World->Prop)(o:Oper)(v:Value)(a:Act):Prop:=
 if Region.wanted o (yielded ops a.tmps)=true then ∀w,I w->grown P I w v ((execOp a.eval o).run P w) else v=undef
def Line(P:Program)(ops:Array Oper)(I:World->Prop)(Q:Act->Prop):List Oper->Act->Prop
 |[],a=>Q a
 |o::l,a=>∃v,Says P ops I o v a/\Line P ops I Q l (a.put o.dst v)
theorem o_{Q:Act->Prop}{a:Act}(h:Q a):Line P ops I Q [] a:=h
theorem a0S{Q:Act->Prop}{o:Oper}{l:List Oper}{a:Act}(v:Value)(h:if Region.wanted o (yielded ops a.tmps)=true then ∀w,I w->grown P I w v ((execOp a.eval o).run P w) else v=undef)(hl:Line P ops I Q l (a.put o.dst v)):Line P ops I Q (o::l) a:=⟨v,h,hl⟩
theorem a_{w:World}{v u:Value}:grown P I w v (.ok (.value u) w)=(u=v):=by simp[grown]
theorem b_{w:World}{v:Value}{f:FuncId}{args:Array Value}:grown P I w v (.ok (.enter f args) w)=Calls P f args w (fun e w''=>e=.returned v/\I w''):=by simp[grown]
theorem a7p{Q:Act->Prop}{o:Oper}{l:List Oper}{a:Act}(hw:Region.wanted o (yielded ops a.tmps)=true)(ty:TypeId)(x:Operand)(ho:o.op=.load ty x)(b k:Nat)(hx:a.eval x=.pointer (some ⟨b,k,none⟩))(cs:List Value)(d:TypeDesc)(hc:∀w,I w->w.rangeAt b k cs)(hu:P.underlying ty=some d)(hd:d.isRow=true)(hi:(P.info? ty).map (·.size)=some cs.length)(h:Line P ops I Q l (a.put o.dst (.agg cs.toArray))):Line P ops I Q (o::l) a:=
 a0S (.agg cs.toArray) (by
  rw[if_pos hw]
  intro w hI
  unfold execOp
  simp only[ho,hx,Instr.loadAt,Instr.sureAddr,Sem.run_bind,Sem.run_pure,Result.andThen_ok,run_loadVar_mid w b k ty cs d (hc w hI) hu hd hi]
  rw[a_]) h
theorem a1f{Q:Act->Prop}{l:List Oper}{a:Act}(h:∀K:Act->Prop,(∀a,Line P ops I Q l a->K a)->K a):Line P ops I Q l a:=h _ fun _ h=>h
theorem sn{Q:Act->Prop}{o:Oper}{l:List Oper}{a:Act}(v:Value)(h:if Region.wanted o (yielded ops a.tmps)=true then ∀w,I w->grown P I w v ((execOp a.eval o).run P w) else v=undef)(hl:∀K:Act->Prop,(∀a,Line P ops I Q l a->K a)->K (a.put o.dst v)):Line P ops I Q (o::l) a:=a0S v h (hl _ fun _ h=>h)
theorem Says.same{o:Oper}{v:Value}{a a':Act}(h:Says P ops I o v a)(he:execOp a'.eval o=execOp a.eval o)(hw:Region.wanted o (yielded ops a'.tmps)=Region.wanted o (yielded ops a.tmps)):Says P ops I o v a':=by
 unfold Says at *
 rw[he,hw]
 exact h
theorem Says.op{o:Oper}{v:Value}{a:Act}{i:Nat}{K:Act->World->Prop}{Q:Exit->Act->World->Prop}(hi:ops[i]? = some o)(h:Says P ops I o v a){w:World}(hw:I w)(hK:∀w',I w'->K (a.put o.dst v) w'):wpOp P ops Q i K a w:=by
 unfold Says at h
 unfold wpOp
 simp only[hi]
 split
 ·rename_i hd
  rw[if_pos hd] at h
  have h1:=h w hw
  refine .inl ?_
  unfold Oper.wp
  generalize(execOp a.eval o).run P w=r at h1 |-
  cases r with
  |halt x w'=>exact h1.elim
  |ok n w'=>
   cases n with
   |value u=>obtain⟨rfl,rfl⟩:=h1;exact hK _ hw
   |skip=>obtain⟨rfl,h2⟩:=h1;rw[<-h2] at hK;exact hK _ hw
   |enter f args=>
    obtain⟨rfl,hc⟩:=h1
    exact hc.mono fun e w'' ⟨he,hw''⟩=>by subst he;exact hK _ hw''
   |_=>exact h1.elim
 ·rename_i hd
  rw[if_neg hd] at h
  subst h
  exact hK w hw
def Free(P:Program)(md:Region.Mode)(ops:Array Oper)(I:World->Prop)(n:Nat)(L:Array Bool->Act->Prop):Nat->Array Bool->Act->Prop
 |0,d,a=>L d a
 |f+1,d,a=>Region.ready md ops d ≠ [] /\ ∀i∈Region.ready md ops d,i<n /\ ∃o v,ops[i]? = some o/\Says P ops I o v a/\Free P md ops I n L f (d.setIfInBounds i true) (a.put o.dst v)
theorem a8G{n g:Nat}{L:Array Bool->Act->Prop}{Q:Exit->Act->World->Prop}(hL:∀d a w,I w->L d a->wpAny P md ops Q g d a w) :
  ∀(f:Nat) (d:Array Bool) (a:Act) (w:World),I w->Free P md ops I n L f d a->wpAny P md ops Q (f+g) d a w
 |0,d,a,w,hw,h=>by rw[Nat.zero_add];exact hL _ _ _ hw h
 |f+1,d,a,w,hw,h=>by
  rw[show f+1+g=(f+g)+1 by omega]
  refine⟨fun h0=>absurd h0 h.1,fun i hi=>?_⟩
  obtain⟨_,o,v,ho,hs,hr⟩:=h.2 i hi
  exact hs.op ho hw fun w' hw'=>a8G hL f _ _ w' hw' hr
theorem b5V{n k:Nat}{o:Oper}{v:Value}{L:Array Bool->Act->Prop}(hk:ops[k]? = some o)(hsel:∀(j:Nat) (o:Oper) cs b,ops[j]? = some o->o.op ≠ .select cs b)(hs:Region.sinkB md ops n=true)(hc:Region.chainB md ops n=true)(hn:n<ops.size)(hkn:k<n)(hL:∀d a,L d a -> ∀j∈Region.ready md ops d,n<=j) :
  ∀(f:Nat) (d:Array Bool) (a:Act),HeadInv md ops n d ->
   (∀j oj,ops[j]? = some oj->j ≠ k->d.getD j true=false->(∀e∈oj.after,Region.binds md e=true->e.on ≠ k)->o.apart ops oj=true) ->
   k∈Region.ready md ops d->Says P ops I o v a->Free P md ops I n L f (d.setIfInBounds k true) (a.put o.dst v)->Free P md ops I n L (f+1) d a:=by
 intro f
 induction f with
 |zero=>
  intro d a inv _ hr hy H
  refine⟨fun h=>(by rw[h] at hr;cases hr),fun j hj=>?_⟩
  have hjn:j<n:=Nat.lt_of_not_le fun hle=>tail_waits hs hc hn inv _ k rfl hkn (mem_ready.1 hr).1 j hle hj
  by_cases hjk:j=k
  ·subst hjk;exact⟨hjn,o,v,hk,hy,H⟩
  ·have:=hL _ _ H j (ready_mono hj hjk)
   omega
 |succ f ih=>
  intro d a inv hfree hr hy H
  refine⟨fun h=>(by rw[h] at hr;cases hr),fun j hj=>?_⟩
  have hjn:j<n:=Nat.lt_of_not_le fun hle=>tail_waits hs hc hn inv _ k rfl hkn (mem_ready.1 hr).1 j hle hj
  by_cases hjk:j=k
  ·subst hjk;exact⟨hjn,o,v,hk,hy,H⟩
  ·obtain⟨_,oj,u,hoj,hyj,Hj⟩:=H.2 j (ready_mono hj hjk)
   obtain⟨hjun,oj',hoj',hall⟩:=mem_ready.1 hj
   obtain rfl:oj'=oj:=Option.some.inj (hoj'.symm.trans hoj)
   have hno:∀e∈oj'.after,Region.binds md e=true->e.on ≠ k:=fun e he hb e0=>by
    have h1:=hall e he hb
    rw[e0,getD_both (mem_ready.1 hr).1] at h1
    cases h1
   obtain⟨a1,a2,a3⟩:=Oper.apart_spec (hfree j oj' hoj hjk hjun hno)
   refine⟨hjn,oj',u,hoj,hyj.same (execOp_put oj' (hsel j oj' · · hoj) a o.dst v a1).symm (wanted_put oj' a o.dst v a1).symm,ih _ _ (inv.set hj hjn) (fun m om hm hmk hun hno'=>hfree m om hm hmk ?_ hno') (ready_mono hr (Ne.symm hjk))
    (hy.same (execOp_put o (hsel k o · · hk) a oj'.dst u a3) (wanted_put o a oj'.dst u a3)) ?_⟩
   ·by_cases hjm:j=m
    ·subst hjm;exact hjun
    ·rw[getD_set_ne true hjm] at hun;exact hun
   ·rw[Array.setIfInBounds_comm _ _ hjk,<-Act.put_comm a v u a2]
    exact Hj
theorem b1e{n g:Nat}{Q:Act->Prop}(hsel:Region.noSelect ops=true)(hs:Region.sinkB md ops n=true)(hc:Region.chainB md ops n=true)(hn:n<ops.size) :
  ∀(l:List Oper) (k:Nat) (d:Array Bool) (a:Act),(∀j,j<l.length->l[j]? = ops[k+j]?)->k+l.length=n->HeadInv md ops n d->Region.lexHead md ops g l.length k d=true ->
   Line P ops I Q l a->Free P md ops I n (fun d' a'=>Region.seqB md ops g n d'=true/\Q a') l.length d a
 |[],k,d,a,_,hk,_,hB,h=>by
  obtain rfl:k=n:=by simpa using hk
  exact⟨by simpa[Region.lexHead] using hB,h⟩
 |o::l,k,d,a,hl,hk,inv,hB,h=>by
  have h0:ops[k]? = some o:=by simpa using(hl 0 (by simp)).symm
  simp only[List.length_cons,Region.lexHead,Bool.and_eq_true] at hB
  obtain⟨⟨hr,hf⟩,hB'⟩:=hB
  simp only[List.length_cons] at hk
  have hr':k∈Region.ready md ops d:=by simpa using hr
  obtain⟨v,hy,hK⟩:=h
  exact b5V h0 (Region.noSelect_spec hsel) hs hc hn (by omega) (fun d' a' hL=>seqB_ready hL.1) l.length d a inv (Region.free_spec h0 hf) hr' hy
   (b1e hsel hs hc hn l (k+1) _ _ (fun j hj=>by have:=hl (j+1) (by simp;omega);simpa[Nat.add_assoc,Nat.add_comm 1 j] using this) (by omega) (inv.set hr' (by omega)) hB' hK)
theorem f_{id:Nat}{Q:Exit->Act->World->Prop}{a:Act}{w:World}{l:List Oper}(n:Nat)(hm:P.follows .mixedOrders=true)(hB:Region.lexTailB .any l.toArray n=true)(I:World->Prop)(hI:I {w with drawn:=w.drawn+1})(h:Line P l.toArray I (fun a'=>∀w',I w'->wpList P l.toArray Q (l.drop n) a' w') (l.take n) a):(Code.region id l.toArray true).wp P Q a w:=by
 simp only[Region.lexTailB,Bool.and_eq_true,decide_eq_true_eq] at hB
 obtain⟨⟨⟨⟨hsel,hn⟩,hs⟩,hc⟩,hlex⟩:=hB
 have hn':n<l.length:=by simpa using hn
 have htl:(l.take n).length=n:=by simp;omega
 have hdl:(l.drop n).length=l.toArray.size - n:=by simp
 have inv0:HeadInv .any l.toArray n (Array.replicate l.toArray.size false):=
  ⟨by simp,fun j oj _ hl=>(by rw[getD_replicate_false] at hl;cases hl),fun t _ ht=>getD_in (by simpa using ht) (getD_replicate_false _ _)⟩
 have H:=b1e (md:=.any) (g:=l.toArray.size - n) hsel hs hc hn (l.take n) 0 _ a (fun j hj=>by
  have hj':j<n:=by rw[htl] at hj;exact hj
  simp[hj']) (by simpa using htl) inv0 (by rw[htl];exact hlex) h
 refine wp_region_any hm ?_
 have:=a8G (Q:=Q) (g:=l.toArray.size - n) (fun d a' w' hw' hL=>by
  have:=wpAny_of_seq (md:=.any) (Q':=Q) (l.drop n) n d a' w' (fun j=>by simp[List.getElem?_drop]) (by rw[hdl];exact hL.1) (hL.2 w' hw')
  rwa [hdl] at this) _ _ _ _ hI H
 rw[htl,show n+(l.toArray.size - n)=l.toArray.size by omega] at this
 exact this
end
end Go.Proofs.YtlimlmjljjmcpaaGreatDoor.Gr
set_option linter.unusedVariables false
namespace Go.Proofs.YtlimlmjljjmcpaaGreatDoor.Gr
open Go
section
variable {P:Program} {ops:Array Oper} {md:Region.Mode} {J:Array Bool->World->Prop}
def a4p(P:Program)(I:World->Prop)(w:World)(v:Value):Result Next->Prop
 |.ok (.value u) w'=>w'=w/\u=v/\I w
 |.ok .skip w'=>undef=v/\I w'
 |.ok (.enter f args) w'=>w'=w/\Calls P f args w fun e w''=>e=.returned v/\I w''
 |_=>False
theorem v_{I:World->Prop}{w:World}{v u:Value}:a4p P I w v (.ok (.value u) w)=(u=v/\I w):=by simp[a4p]
theorem a2f{I:World->Prop}{w w':World}{v:Value}:a4p P I w v (.ok .skip w')=(undef=v/\I w'):=by simp[a4p]
theorem a3X{I:World->Prop}{w:World}{v:Value}{f:FuncId}{args:Array Value}:a4p P I w v (.ok (.enter f args) w)=Calls P f args w (fun e w''=>e=.returned v/\I w''):=by simp[a4p]
def a5e(P:Program)(ops:Array Oper)(J:Array Bool->World->Prop)(i:Nat)(o:Oper)(v:Value)(a:Act):Prop:=
 if Region.wanted o (yielded ops a.tmps)=true then ∀d w,J d w->a4p P (J (d.setIfInBounds i true)) w v ((execOp a.eval o).run P w) else v=undef /\ ∀d w,J d w->J (d.setIfInBounds i true) w
def a7A(P:Program)(ops:Array Oper)(J:Array Bool->World->Prop)(Q:Act->Prop):Nat->List Oper->Act->Prop
 |_,[],a=>Q a
 |k,o::l,a=>∃v,a5e P ops J k o v a/\a7A P ops J Q (k+1) l (a.put o.dst v)
theorem a6Z{Q:Act->Prop}{k:Nat}{a:Act}(h:Q a):a7A P ops J Q k [] a:=h
theorem m_{Q:Act->Prop}{o:Oper}{k:Nat}{l:List Oper}{a:Act}(v:Value)(h:if Region.wanted o (yielded ops a.tmps)=true then ∀d w,J d w->a4p P (J (d.setIfInBounds k true)) w v ((execOp a.eval o).run P w) else v=undef /\ ∀d w,J d w->J (d.setIfInBounds k true) w)(hl:a7A P ops J Q (k+1) l (a.put o.dst v)):a7A P ops J Q k (o::l) a:=⟨v,h,hl⟩
theorem l_{Q:Act->Prop}{k:Nat}{l:List Oper}{a:Act}(h:∀K:Act->Prop,(∀a,a7A P ops J Q k l a->K a)->K a):a7A P ops J Q k l a:=h _ fun _ h=>h
theorem a5e.same{i:Nat}{o:Oper}{v:Value}{a a':Act}(h:a5e P ops J i o v a)(he:execOp a'.eval o=execOp a.eval o)(hw:Region.wanted o (yielded ops a'.tmps)=Region.wanted o (yielded ops a.tmps)):a5e P ops J i o v a':=by
 unfold a5e at *
 rw[he,hw]
 exact h
theorem a5e.op{o:Oper}{v:Value}{a:Act}{i:Nat}{d:Array Bool}{K:Act->World->Prop}{Q:Exit->Act->World->Prop}(hi:ops[i]? = some o)(h:a5e P ops J i o v a){w:World}(hw:J d w)(hK:∀w',J (d.setIfInBounds i true) w'->K (a.put o.dst v) w'):wpOp P ops Q i K a w:=by
 unfold a5e at h
 unfold wpOp
 simp only[hi]
 split
 ·rename_i hd
  rw[if_pos hd] at h
  have h1:=h d w hw
  refine .inl ?_
  unfold Oper.wp
  generalize(execOp a.eval o).run P w=r at h1 |-
  cases r with
  |halt x w'=>exact h1.elim
  |ok n w'=>
   cases n with
   |value u=>obtain⟨rfl,rfl,h2⟩:=h1;exact hK _ h2
   |skip=>obtain⟨h2,h3⟩:=h1;rw[<-h2] at hK;exact hK _ h3
   |enter f args=>
    obtain⟨rfl,hc⟩:=h1
    exact hc.mono fun e w'' ⟨he,hw''⟩=>by subst he;exact hK _ hw''
   |_=>exact h1.elim
 ·rename_i hd
  rw[if_neg hd] at h
  obtain⟨rfl,h2⟩:=h
  exact hK w (h2 d w hw)
def b3l(P:Program)(md:Region.Mode)(ops:Array Oper)(J:Array Bool->World->Prop)(n:Nat)(L:Array Bool->Act->Prop):Nat->Array Bool->Act->Prop
 |0,d,a=>L d a
 |f+1,d,a=>Region.ready md ops d ≠ [] /\ ∀i∈Region.ready md ops d,i<n /\ ∃o v,ops[i]? = some o/\a5e P ops J i o v a/\b3l P md ops J n L f (d.setIfInBounds i true) (a.put o.dst v)
theorem b1d{n g:Nat}{L:Array Bool->Act->Prop}{Q:Exit->Act->World->Prop}(hL:∀d a w,J d w->L d a->wpAny P md ops Q g d a w) :
  ∀(f:Nat) (d:Array Bool) (a:Act) (w:World),J d w->b3l P md ops J n L f d a->wpAny P md ops Q (f+g) d a w
 |0,d,a,w,hw,h=>by rw[Nat.zero_add];exact hL _ _ _ hw h
 |f+1,d,a,w,hw,h=>by
  rw[show f+1+g=(f+g)+1 by omega]
  refine⟨fun h0=>absurd h0 h.1,fun i hi=>?_⟩
  obtain⟨_,o,v,ho,hs,hr⟩:=h.2 i hi
  exact hs.op ho hw fun w' hw'=>b1d hL f _ _ w' hw' hr
theorem b3o{n k:Nat}{o:Oper}{v:Value}{L:Array Bool->Act->Prop}(hk:ops[k]? = some o)(hsel:∀(j:Nat) (o:Oper) cs b,ops[j]? = some o->o.op ≠ .select cs b)(hs:Region.sinkB md ops n=true)(hc:Region.chainB md ops n=true)(hn:n<ops.size)(hkn:k<n)(hL:∀d a,L d a -> ∀j∈Region.ready md ops d,n<=j) :
  ∀(f:Nat) (d:Array Bool) (a:Act),HeadInv md ops n d ->
   (∀j oj,ops[j]? = some oj->j ≠ k->d.getD j true=false->(∀e∈oj.after,Region.binds md e=true->e.on ≠ k)->o.apart ops oj=true) ->
   k∈Region.ready md ops d->a5e P ops J k o v a->b3l P md ops J n L f (d.setIfInBounds k true) (a.put o.dst v)->b3l P md ops J n L (f+1) d a:=by
 intro f
 induction f with
 |zero=>
  intro d a inv _ hr hy H
  refine⟨fun h=>(by rw[h] at hr;cases hr),fun j hj=>?_⟩
  have hjn:j<n:=Nat.lt_of_not_le fun hle=>tail_waits hs hc hn inv _ k rfl hkn (mem_ready.1 hr).1 j hle hj
  by_cases hjk:j=k
  ·subst hjk;exact⟨hjn,o,v,hk,hy,H⟩
  ·have:=hL _ _ H j (ready_mono hj hjk)
   omega
 |succ f ih=>
  intro d a inv hfree hr hy H
  refine⟨fun h=>(by rw[h] at hr;cases hr),fun j hj=>?_⟩
  have hjn:j<n:=Nat.lt_of_not_le fun hle=>tail_waits hs hc hn inv _ k rfl hkn (mem_ready.1 hr).1 j hle hj
  by_cases hjk:j=k
  ·subst hjk;exact⟨hjn,o,v,hk,hy,H⟩
  ·obtain⟨_,oj,u,hoj,hyj,Hj⟩:=H.2 j (ready_mono hj hjk)
   obtain⟨hjun,oj',hoj',hall⟩:=mem_ready.1 hj
   obtain rfl:oj'=oj:=Option.some.inj (hoj'.symm.trans hoj)
   have hno:∀e∈oj'.after,Region.binds md e=true->e.on ≠ k:=fun e he hb e0=>by
    have h1:=hall e he hb
    rw[e0,getD_both (mem_ready.1 hr).1] at h1
    cases h1
   obtain⟨a1,a2,a3⟩:=Oper.apart_spec (hfree j oj' hoj hjk hjun hno)
   refine⟨hjn,oj',u,hoj,hyj.same (execOp_put oj' (hsel j oj' · · hoj) a o.dst v a1).symm (wanted_put oj' a o.dst v a1).symm,ih _ _ (inv.set hj hjn) (fun m om hm hmk hun hno'=>hfree m om hm hmk ?_ hno') (ready_mono hr (Ne.symm hjk))
    (hy.same (execOp_put o (hsel k o · · hk) a oj'.dst u a3) (wanted_put o a oj'.dst u a3)) ?_⟩
   ·by_cases hjm:j=m
    ·subst hjm;exact hjun
    ·rw[getD_set_ne true hjm] at hun;exact hun
   ·rw[Array.setIfInBounds_comm _ _ hjk,<-Act.put_comm a v u a2]
    exact Hj
theorem a9i{n g:Nat}{Q:Act->Prop}(hsel:Region.noSelect ops=true)(hs:Region.sinkB md ops n=true)(hc:Region.chainB md ops n=true)(hn:n<ops.size) :
  ∀(l:List Oper) (k:Nat) (d:Array Bool) (a:Act),(∀j,j<l.length->l[j]? = ops[k+j]?)->k+l.length=n->HeadInv md ops n d->(∀j,j<k->d[j]? = some true)->Region.lexHead md ops g l.length k d=true ->
   a7A P ops J Q k l a->b3l P md ops J n (fun d' a'=>Region.seqB md ops g n d'=true/\(∀j,j<n->d'[j]? = some true)/\Q a') l.length d a
 |[],k,d,a,_,hk,_,hd,hB,h=>by
  obtain rfl:k=n:=by simpa using hk
  exact⟨by simpa[Region.lexHead] using hB,hd,h⟩
 |o::l,k,d,a,hl,hk,inv,hd,hB,h=>by
  have h0:ops[k]? = some o:=by simpa using(hl 0 (by simp)).symm
  simp only[List.length_cons,Region.lexHead,Bool.and_eq_true] at hB
  obtain⟨⟨hr,hf⟩,hB'⟩:=hB
  simp only[List.length_cons] at hk
  have hr':k∈Region.ready md ops d:=by simpa using hr
  obtain⟨v,hy,hK⟩:=h
  exact b3o h0 (Region.noSelect_spec hsel) hs hc hn (by omega) (fun d' a' hL=>seqB_ready hL.1) l.length d a inv (Region.free_spec h0 hf) hr' hy
   (a9i hsel hs hc hn l (k+1) _ _ (fun j hj=>by have:=hl (j+1) (by simp;omega);simpa[Nat.add_assoc,Nat.add_comm 1 j] using this) (by omega) (inv.set hr' (by omega)) (fun j hj=>by
    have hsz:=inv.size
    by_cases hjk:j=k
    ·subst hjk
     rw[Array.getElem?_setIfInBounds_self_of_lt (by omega)]
    ·rw[Array.getElem?_setIfInBounds_ne (Ne.symm hjk)]
     exact hd j (by omega)) hB' hK)
theorem a6F{id:Nat}{Q:Exit->Act->World->Prop}{a:Act}{w:World}{l:List Oper}(n:Nat)(hm:P.follows .mixedOrders=true)(hB:Region.lexTailB .any l.toArray n=true)(J:Array Bool->World->Prop)(hJ:J (Array.replicate l.toArray.size false) {w with drawn:=w.drawn+1})(h:a7A P l.toArray J (fun a'=>∀d w',(∀j,j<n->d[j]? = some true)->J d w'->wpList P l.toArray Q (l.drop n) a' w') 0 (l.take n) a):(Code.region id l.toArray true).wp P Q a w:=by
 simp only[Region.lexTailB,Bool.and_eq_true,decide_eq_true_eq] at hB
 obtain⟨⟨⟨⟨hsel,hn⟩,hs⟩,hc⟩,hlex⟩:=hB
 have hn':n<l.length:=by simpa using hn
 have htl:(l.take n).length=n:=by simp;omega
 have hdl:(l.drop n).length=l.toArray.size - n:=by simp
 have inv0:HeadInv .any l.toArray n (Array.replicate l.toArray.size false):=
  ⟨by simp,fun j oj _ hl=>(by rw[getD_replicate_false] at hl;cases hl),fun t _ ht=>getD_in (by simpa using ht) (getD_replicate_false _ _)⟩
 have H:=a9i (md:=.any) (g:=l.toArray.size - n) hsel hs hc hn (l.take n) 0 _ a (fun j hj=>by
  have hj':j<n:=by rw[htl] at hj;exact hj
  simp[hj']) (by simpa using htl) inv0 (fun j hj=>absurd hj (by omega)) (by rw[htl];exact hlex) h
 refine wp_region_any hm ?_
 have:=b1d (Q:=Q) (g:=l.toArray.size - n) (fun d a' w' hw' hL=>by
  have:=wpAny_of_seq (md:=.any) (Q':=Q) (l.drop n) n d a' w' (fun j=>by simp[List.getElem?_drop]) (by rw[hdl];exact hL.1) (hL.2.2 d w' hL.2.1 hw')
  rwa [hdl] at this) _ _ _ _ hJ H
 rw[htl,show n+(l.toArray.size - n)=l.toArray.size by omega] at this
 exact this
end
end Go.Proofs.YtlimlmjljjmcpaaGreatDoor.Gr
set_option linter.unusedVariables false
set_option linter.unusedSimpArgs false
namespace Go.Proofs.YtlimlmjljjmcpaaGreatDoor.Gr
open Go
section
variable {P:Program} {ops:Array Oper} {md:Region.Mode} {I:World->Prop}
def b6u(md:Region.Mode)(ops:Array Oper)(n:Nat):Bool:=
 (List.range n).all fun i=>decide (i=0) || (List.range (n+1)).any fun j=>decide (i<j)&&Region.waitsFor md ops j i
def b3x(md:Region.Mode)(ops:Array Oper)(n:Nat):Bool:=
 Region.noSelect ops&&decide (n<ops.size)&&b6u md ops n&&Region.chainB md ops n&&Region.free md ops (Array.replicate ops.size false) 0&&(Region.ready md ops (Array.replicate ops.size false)).contains 0&&Region.lexHead md ops (ops.size - n) (n - 1) 1 ((Array.replicate ops.size false).setIfInBounds 0 true)
theorem a7z{n:Nat}{listed:Array Bool}(hs:b6u md ops n=true)(hc:Region.chainB md ops n=true)(hn:n<ops.size)(inv:HeadInv md ops n listed)(h00:listed.getD 0 true=true) :
  ∀(d i:Nat),n - i=d->i<n->listed.getD i true=false -> ∀t,n<=t->t ∉ Region.ready md ops listed:=by
 intro d
 induction d using Nat.strongRecOn with
 |_ d ih=>
  intro i hd hi hun t ht hr
  obtain⟨_,ot,hot,hall⟩:=mem_ready.1 hr
  have htlt:t<ops.size:=(Array.getElem?_eq_some_iff.1 hot).1
  by_cases htn:t=n
  ·subst htn
   have h1:=List.all_eq_true.1 hs i (List.mem_range.2 hi)
   rw[Bool.or_eq_true] at h1
   rcases h1 with h1|h1
   ·have h2:i=0:=of_decide_eq_true h1
    subst h2
    rw[h00] at hun
    cases hun
   obtain⟨j,hj,hj2⟩:=List.any_eq_true.1 h1
   simp only[Bool.and_eq_true,decide_eq_true_eq] at hj2
   obtain⟨oj,hoj,e,he,hb,hon⟩:=Region.waitsFor_spec hj2.2
   have hjle:j<=t:=by have:=List.mem_range.1 hj;omega
   by_cases hjt:j=t
   ·subst hjt
    have:oj=ot:=Option.some.inj (hoj.symm.trans hot)
    subst this
    have h2:=hall e he hb
    rw[hon,getD_both hun] at h2
    cases h2
   ·cases hl:listed.getD j false with
    |true=>
     have h2:=inv.closed j oj hoj hl e he hb
     rw[hon,getD_both hun] at h2
     cases h2
    |false=>
     have hjs:j<listed.size:=by rw[inv.size];omega
     exact ih (t - j) (by omega) j rfl (by omega) (getD_in hjs hl) t (Nat.le_refl _) hr
  ·have h1:=List.all_eq_true.1 hc t (List.mem_range.2 htlt)
   simp only[Bool.or_eq_true,decide_eq_true_eq] at h1
   rcases h1 with h1|h1
   ·omega
   ·obtain⟨o',ho',e,he,hb,hon⟩:=Region.waitsFor_spec h1
    have:o'=ot:=Option.some.inj (ho'.symm.trans hot)
    subst this
    have h2:=hall e he hb
    rw[hon,getD_both (inv.tail (t - 1) (by omega) (by omega))] at h2
    cases h2
theorem b9r{i:Nat}{d:Array Bool}(h:d.getD 0 true=true):(d.setIfInBounds i true).getD 0 true=true:=by
 by_cases hi:i=0
 ·subst hi
  by_cases hz:0<d.size
  ·simp[hz]
  ·simp
 ·rw[getD_set_ne true hi];exact h
theorem b3N{n k:Nat}{o:Oper}{v:Value}{L:Array Bool->Act->Prop}(hk:ops[k]? = some o)(hsel:∀(j:Nat) (o:Oper) cs b,ops[j]? = some o->o.op ≠ .select cs b)(hs:b6u md ops n=true)(hc:Region.chainB md ops n=true)(hn:n<ops.size)(hkn:k<n)(hL:∀d a,L d a -> ∀j∈Region.ready md ops d,n<=j) :
  ∀(f:Nat) (d:Array Bool) (a:Act),HeadInv md ops n d->d.getD 0 true=true ->
   (∀j oj,ops[j]? = some oj->j ≠ k->d.getD j true=false->(∀e∈oj.after,Region.binds md e=true->e.on ≠ k)->o.apart ops oj=true) ->
   k∈Region.ready md ops d->Says P ops I o v a->Free P md ops I n L f (d.setIfInBounds k true) (a.put o.dst v)->Free P md ops I n L (f+1) d a:=by
 intro f
 induction f with
 |zero=>
  intro d a inv h00 _ hr hy H
  refine⟨fun h=>(by rw[h] at hr;cases hr),fun j hj=>?_⟩
  have hjn:j<n:=Nat.lt_of_not_le fun hle=>a7z hs hc hn inv h00 _ k rfl hkn (mem_ready.1 hr).1 j hle hj
  by_cases hjk:j=k
  ·subst hjk;exact⟨hjn,o,v,hk,hy,H⟩
  ·have:=hL _ _ H j (ready_mono hj hjk)
   omega
 |succ f ih=>
  intro d a inv h00 hfree hr hy H
  refine⟨fun h=>(by rw[h] at hr;cases hr),fun j hj=>?_⟩
  have hjn:j<n:=Nat.lt_of_not_le fun hle=>a7z hs hc hn inv h00 _ k rfl hkn (mem_ready.1 hr).1 j hle hj
  by_cases hjk:j=k
  ·subst hjk;exact⟨hjn,o,v,hk,hy,H⟩
  ·obtain⟨_,oj,u,hoj,hyj,Hj⟩:=H.2 j (ready_mono hj hjk)
   obtain⟨hjun,oj',hoj',hall⟩:=mem_ready.1 hj
   obtain rfl:oj'=oj:=Option.some.inj (hoj'.symm.trans hoj)
   have hno:∀e∈oj'.after,Region.binds md e=true->e.on ≠ k:=fun e he hb e0=>by
    have h1:=hall e he hb
    rw[e0,getD_both (mem_ready.1 hr).1] at h1
    cases h1
   obtain⟨a1,a2,a3⟩:=Oper.apart_spec (hfree j oj' hoj hjk hjun hno)
   refine⟨hjn,oj',u,hoj,hyj.same (execOp_put oj' (hsel j oj' · · hoj) a o.dst v a1).symm (wanted_put oj' a o.dst v a1).symm,ih _ _ (inv.set hj hjn) (b9r h00) (fun m om hm hmk hun hno'=>hfree m om hm hmk ?_ hno') (ready_mono hr (Ne.symm hjk))
    (hy.same (execOp_put o (hsel k o · · hk) a oj'.dst u a3) (wanted_put o a oj'.dst u a3)) ?_⟩
   ·by_cases hjm:j=m
    ·subst hjm;exact hjun
    ·rw[getD_set_ne true hjm] at hun;exact hun
   ·rw[Array.setIfInBounds_comm _ _ hjk,<-Act.put_comm a v u a2]
    exact Hj
theorem a9x{n g:Nat}{Q:Act->Prop}(hsel:Region.noSelect ops=true)(hs:b6u md ops n=true)(hc:Region.chainB md ops n=true)(hn:n<ops.size) :
  ∀(l:List Oper) (k:Nat) (d:Array Bool) (a:Act),(∀j,j<l.length->l[j]? = ops[k+j]?)->k+l.length=n->HeadInv md ops n d->d.getD 0 true=true->Region.lexHead md ops g l.length k d=true ->
   Line P ops I Q l a->Free P md ops I n (fun d' a'=>Region.seqB md ops g n d'=true/\Q a') l.length d a
 |[],k,d,a,_,hk,_,_,hB,h=>by
  obtain rfl:k=n:=by simpa using hk
  exact⟨by simpa[Region.lexHead] using hB,h⟩
 |o::l,k,d,a,hl,hk,inv,h00,hB,h=>by
  have h0:ops[k]? = some o:=by simpa using(hl 0 (by simp)).symm
  simp only[List.length_cons,Region.lexHead,Bool.and_eq_true] at hB
  obtain⟨⟨hr,hf⟩,hB'⟩:=hB
  simp only[List.length_cons] at hk
  have hr':k∈Region.ready md ops d:=by simpa using hr
  obtain⟨v,hy,hK⟩:=h
  exact b3N h0 (Region.noSelect_spec hsel) hs hc hn (by omega) (fun d' a' hL=>seqB_ready hL.1) l.length d a inv h00 (Region.free_spec h0 hf) hr' hy
   (a9x hsel hs hc hn l (k+1) _ _ (fun j hj=>by have:=hl (j+1) (by simp;omega);simpa[Nat.add_assoc,Nat.add_comm 1 j] using this) (by omega) (inv.set hr' (by omega)) (b9r h00) hB' hK)
theorem a6p{id:Nat}{Q:Exit->Act->World->Prop}{a:Act}{w:World}{o:Oper}{l:List Oper}(n:Nat)(hm:P.follows .mixedOrders=true)(hB:b3x .any (o::l).toArray (n+1)=true)(I:World->Prop)(hI:I {w with drawn:=w.drawn+1})(v:Value)(hg:o.guard=none)(hy:∀w,(execOp a.eval o).run P w=.ok (.value v) w)(hQ:∀c a w,Q (.panic c) (a.put o.dst v) w->Q (.panic c) a w)(h:Line P (o::l).toArray I (fun a'=>∀w',I w'->wpList P (o::l).toArray Q (l.drop n) a' w') (l.take n) (a.put o.dst v)):(Code.region id (o::l).toArray true).wp P Q a w:=by
 simp only[b3x,Bool.and_eq_true,decide_eq_true_eq,Nat.add_sub_cancel] at hB
 obtain⟨⟨⟨⟨⟨⟨hsel,hn⟩,hs⟩,hc⟩,hfr⟩,hrd⟩,hlex⟩:=hB
 have hn':n<l.length:=by simpa using hn
 have htl:(l.take n).length=n:=by simp;omega
 have h0:(o::l).toArray[0]? = some o:=by simp
 have hr0:0∈Region.ready .any (o::l).toArray (Array.replicate (o::l).toArray.size false):=by simpa using hrd
 have inv0:HeadInv .any (o::l).toArray (n+1) (Array.replicate (o::l).toArray.size false):=
  ⟨by simp,fun j oj _ hl=>(by rw[getD_replicate_false] at hl;cases hl),fun t _ ht=>getD_in (by simpa using ht) (getD_replicate_false _ _)⟩
 have inv1:=inv0.set hr0 (by omega)
 have h00:((Array.replicate (o::l).toArray.size false).setIfInBounds 0 true).getD 0 true=true:=by simp
 have H:=a9x (I:=I) (P:=P) (md:=.any) (g:=(o::l).toArray.size - (n+1)) hsel hs hc hn (l.take n) 1 _ (a.put o.dst v) (fun j hj=>by
  have hj':j<n:=by rw[htl] at hj;exact hj
  simp[hj',Nat.add_comm 1 j]) (by rw[htl];omega) inv1 h00 (by rw[htl];exact hlex) h
 refine wp_region_any hm ?_
 have hsz:(o::l).toArray.size=(n+((o::l).toArray.size - (n+1)))+1:=by omega
 rw[hsz]
 refine wpAny_take h0 hsel (by rw[<-hsz];exact hfr) (by rw[<-hsz];exact hrd) hQ (.inl ⟨by unfold Region.wanted;rw[hg],hy⟩) ?_
 have hdl:(l.drop n).length=(o::l).toArray.size - (n+1):=by simp
 have:=a8G (Q:=Q) (g:=(o::l).toArray.size - (n+1)) (fun d a' w' hw' hL=>by
  have:=wpAny_of_seq (md:=.any) (Q':=Q) (l.drop n) (n+1) d a' w' (fun j=>by rw[List.getElem?_drop,show n+1+j=(n+j)+1 by omega];simp) (by rw[hdl];exact hL.1) (hL.2 w' hw')
  rwa [hdl] at this) _ _ _ _ hI H
 rw[htl] at this
 rw[<-hsz]
 exact this
end
end Go.Proofs.YtlimlmjljjmcpaaGreatDoor.Gr
set_option linter.unusedVariables false
namespace Go.Proofs.YtlimlmjljjmcpaaGreatDoor.Gr
open Go
section
variable {P:Program} {ops:Array Oper} {md:Region.Mode} {J:Array Bool->World->Prop}
def c2c(P:Program)(I:World->Prop)(w:World)(v:Value):Result Next->Prop
 |.ok (.value u) w'=>u=v/\I w'
 |.ok .skip w'=>undef=v/\I w'
 |.ok (.enter f args) w'=>w'=w/\Calls P f args w fun e w''=>e=.returned v/\I w''
 |_=>False
def Next(md:Region.Mode)(o:Oper)(i:Nat)(d:Array Bool):Prop:=d.getD i true=false /\ ∀e∈o.after,Region.binds md e=true->d.getD e.on false=true
def a8H(P:Program)(md:Region.Mode)(ops:Array Oper)(J:Array Bool->World->Prop)(i:Nat)(o:Oper)(v:Value)(a:Act):Prop:=
 if Region.wanted o (yielded ops a.tmps)=true then ∀d w,Next md o i d->J d w->c2c P (J (d.setIfInBounds i true)) w v ((execOp a.eval o).run P w) else v=undef /\ ∀d w,Next md o i d->J d w->J (d.setIfInBounds i true) w
theorem a8H.same{i:Nat}{o:Oper}{v:Value}{a a':Act}(h:a8H P md ops J i o v a)(he:execOp a'.eval o=execOp a.eval o)(hw:Region.wanted o (yielded ops a'.tmps)=Region.wanted o (yielded ops a.tmps)):a8H P md ops J i o v a':=by
 unfold a8H at *
 rw[he,hw]
 exact h
theorem a8H.op{o:Oper}{v:Value}{a:Act}{i:Nat}{d:Array Bool}{K:Act->World->Prop}{Q:Exit->Act->World->Prop}(hi:ops[i]? = some o)(h:a8H P md ops J i o v a){w:World}(hn:Next md o i d)(hw:J d w)(hK:∀w',J (d.setIfInBounds i true) w'->K (a.put o.dst v) w'):wpOp P ops Q i K a w:=by
 unfold a8H at h
 unfold wpOp
 simp only[hi]
 split
 ·rename_i hd
  rw[if_pos hd] at h
  have h1:=h d w hn hw
  refine .inl ?_
  unfold Oper.wp
  generalize(execOp a.eval o).run P w=r at h1 |-
  cases r with
  |halt x w'=>exact h1.elim
  |ok n w'=>
   cases n with
   |value u=>obtain⟨rfl,h2⟩:=h1;exact hK _ h2
   |skip=>obtain⟨h2,h3⟩:=h1;rw[<-h2] at hK;exact hK _ h3
   |enter f args=>
    obtain⟨rfl,hc⟩:=h1
    exact hc.mono fun e w'' ⟨he,hw''⟩=>by subst he;exact hK _ hw''
   |_=>exact h1.elim
 ·rename_i hd
  rw[if_neg hd] at h
  obtain⟨rfl,h2⟩:=h
  exact hK w (h2 d w hn hw)
theorem c0M{md:Region.Mode}{o:Oper}{i:Nat}{d:Array Bool}(h:Next md o i d):i<d.size:=by
 rcases Nat.lt_or_ge i d.size with hl|hg
 ·exact hl
 ·have:=h.1
  rw[Array.getD_eq_getD_getElem?,Array.getElem?_eq_none hg] at this
  cases this
theorem b8Y{md:Region.Mode}{o:Oper}{i:Nat}{d:Array Bool}(h:Next md o i d):d.getD i false=false:=getD_both h.1
theorem c1M{d:Array Bool}{i:Nat}(h:i<d.size):(d.setIfInBounds i true).getD i false=true:=by
 rw[Array.getD_eq_getD_getElem?,Array.getElem?_setIfInBounds_self_of_lt h];rfl
def J2(p:Nat)(W0 W1:World)(d:Array Bool)(w:World):Prop:=w=if d.getD p false=true then W1 else W0
def J3(p q:Nat)(W0 W1 W2:World)(d:Array Bool)(w:World):Prop:=(d.getD q false=true->d.getD p false=true)/\w=if d.getD q false=true then W2 else if d.getD p false=true then W1 else W0
section
variable {p q i:Nat} {W0 W1 W2 w:World} {d:Array Bool} {o:Oper} {md:Region.Mode}
theorem J2.at_(h:J2 p W0 W1 d w)(hn:Next md o p d):w=W0/\J2 p W0 W1 (d.setIfInBounds p true) W1:=by
 unfold J2 at *
 rw[b8Y hn] at h
 rw[c1M (c0M hn)]
 exact⟨by simpa using h,by simp⟩
theorem J2.start{n:Nat}:J2 p W0 W1 (Array.replicate n false) W0:=by
 unfold J2
 rw[getD_replicate_false]
 simp
theorem J2.done{n:Nat}(hd:∀j,j<n->d[j]? = some true)(hp:p<n)(h:J2 p W0 W1 d w):w=W1:=by
 unfold J2 at h
 rw[Array.getD_eq_getD_getElem?,hd p hp] at h
 simpa using h
theorem J2.below(h:J2 p W0 W1 d w){n:Nat}{v:World}(h0:RowKit.Below n v W0)(h1:RowKit.Below n v W1):RowKit.Below n v w:=by
 unfold J2 at h
 split at h<;>subst h
 ·exact h1
 ·exact h0
theorem J3.start{n:Nat}:J3 p q W0 W1 W2 (Array.replicate n false) W0:=by
 unfold J3
 rw[getD_replicate_false,getD_replicate_false]
 simp
theorem J3.done{n:Nat}(hd:∀j,j<n->d[j]? = some true)(hq:q<n)(h:J3 p q W0 W1 W2 d w):w=W2:=by
 have h:=h.2
 rw[Array.getD_eq_getD_getElem? (i:=q),hd q hq] at h
 simpa using h
theorem J3.below(h:J3 p q W0 W1 W2 d w){n:Nat}{v:World}(h0:RowKit.Below n v W0)(h1:RowKit.Below n v W1)(h2:RowKit.Below n v W2):RowKit.Below n v w:=by
 have h:=h.2
 split at h
 ·subst h;exact h2
 ·split at h<;>subst h
  ·exact h1
  ·exact h0
end
end
end Go.Proofs.YtlimlmjljjmcpaaGreatDoor.Gr
