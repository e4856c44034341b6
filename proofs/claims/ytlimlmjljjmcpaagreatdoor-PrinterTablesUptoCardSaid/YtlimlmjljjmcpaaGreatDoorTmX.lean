import Derived.Test.YtlimlmjljjmcpaaGreatDoorBdA
import Derived.Test.YtlimlmjljjmcpaaGreatDoorBpX
import Derived.Maps.OwnOps
import Derived.Maps.Views
set_option maxHeartbeats 16000000
set_option maxRecDepth 100000
namespace Go.Proofs.YtlimlmjljjmcpaaGreatDoor.Px
open Go Go.RowKit Go.Proofs.YtlimlmjljjmcpaaGreatDoor.Ps
set_option linter.unusedVariables false
set_option linter.unusedSimpArgs false
mutual
def a0e(f:X->X):X->X
 |.mk op int vk vi vs nm l=>if op=2 then f (.mk op int vk vi vs nm (a0d f l)) else .mk op int vk vi vs nm (a0d f l)
def a0d(f:X->X):List X->List X
 |[]=>[]
 |x::l=>a0e f x::a0d f l
end
theorem a1Y(f:X->X):∀l:List X,(a0d f l).length=l.length
 |[]=>rfl
 |x::l=>by rw[a0d,List.length_cons,List.length_cons,a1Y f l]
theorem a3I(f:X->X):∀ {l:List X} {k:Nat} (hk:k<l.length),a0d f (l.take (k+1))=a0d f (l.take k)++[a0e f l[k]]
 |x::l,0,_=>by simp[a0d]
 |x::l,k+1,hk=>by
  rw[List.take_succ_cons,a0d,a3I f (by simpa using hk),List.take_succ_cons,a0d];rfl
def a2V(w:World)(y:X)(e:Ending)(w':World):Prop:=(∃a m,e=.returned (.agg (xc y a m).toArray)/\XF w.heap.size w'.heap.size w' y (xc y a m))/\Below w.heap.size w w'
def a7e(lo:Nat)(w:World)(y:X)(e:Ending)(w':World):Prop:=(∃a m,e=.returned (.agg (xc y a m).toArray)/\XF lo w'.heap.size w' y (xc y a m))/\Below w.heap.size w w'
theorem a3J{B:Nat}{v:Value}{l:List X}{w:World}(h:OwnX B v l w):∀g,v.ownBlock=some g->B<=g/\g<w.heap.size:=by
 obtain⟨css,_,_,h3,_⟩:=h.row
 exact h3.lt
theorem a7v(f:X->X)(G:FuncId)(caps:Array Value)(hG:∀args w,Sem.run Tryz.prog (callFunc G args) w=.ok (.enter G args) w)(op int vk vi:Int)(vs nm:S)(l:List X)(cs:List Value)(w:World)(hn:l.length<=1000000)(h:XR w (.mk op int vk vi vs nm l) cs)(hF:∀(ys:List X) (us:List Value) (w':World) (lo:Nat),op=2->ys=a0d f l->Below w.heap.size w w'->w.heap.size<=lo->lo<=w'.heap.size->XF lo w'.heap.size w' (.mk op int vk vi vs nm ys) us->Calls Tryz.prog G (#[.agg us.toArray]++caps) w' (a7e lo w' (f (.mk op int vk vi vs nm ys))))(IH:∀(k:Nat) (hk:k<l.length) (us:List Value) (w':World),Below w.heap.size w w'->XR w' l[k] us->Calls Tryz.prog 203 #[.agg us.toArray,.func (.func G) #[] caps] w' (a2V w' (a0e f l[k]))) :
  Calls Tryz.prog 203 #[.agg cs.toArray,.func (.func G) #[] caps] w (a2V w (a0e f (.mk op int vk vi vs nm l))):=by
 obtain⟨ix,hix,hx0,hx1,hx2⟩:=info_parts a2e
 obtain⟨a,m,rfl,hl,h1,h2,_⟩:=h.lits
 have HV1:=h_ h1
 have HV2:=h_ h2
 have HL:=h_ hl
 have HIH:=h_ IH
 have HFF:=h_ hF
 have HG:=h_ hG
 have HR:Hid (a0e f (.mk op int vk vi vs nm l)=if op=2 then f (.mk op int vk vi vs nm (a0d f l)) else .mk op int vk vi vs nm (a0d f l)):=h_ (by rw[a0e])
 generalize a0e f (.mk op int vk vi vs nm l)=R at HR |-
 clear h hl IH h1 h2 hF hG
 go_enter Tryz.func203,Tryz.ntmps203
 go_upto_region 1 with(fail)
 refine nB fun w1 hB0 hB1 hw1 hsz=>?_
 have HB0:=h_ hB0
 have HB1:=h_ hB1
 have HW1:=h_ hw1
 have HS1:=h_ hsz
 have q6:=hB0.cell 6 rfl
 clear hB0 hB1 hw1 hsz
 go_upto_region 3 with(fail)
 clear q6
 go_loopw [5,7,11] (fun v _ i wr=>∃k:Nat,k<=l.length/\i=.int .i64 (k:Int)/\OwnX w1.heap.size v (a0d f (l.take k)) wr/\Below w1.heap.size w1 wr) (fun _ _ i _=>l.length - (intOf i).toNat)
 case atStart=>exact⟨0,Nat.zero_le _,rfl,OwnX.nil _ _,Below.refl _ _⟩
 case round=>
  obtain⟨k,hk,rfl,hox,hb⟩:=hrel
  have HD0:=h_ (HB0.out.below hb)
  have HD1:=h_ (HB1.out.below hb)
  have HO:=h_ hox
  have HWr:=t_ HW1 hb
  have HBB:=h_ hb
  clear hb hox
  by_cases hlt:k<l.length
  ·have k1:(k:Int)<(l.length:Int):=by omega
   have k0:(0:Int)<=(k:Int):=by omega
   obtain⟨g,o,us,eq,hec,hkx,hrx⟩:=HL.out.ec hlt
   subst eq
   have HIK:=h_ fun(w':World) (hw':Below wr.heap.size wr w')=>HIH.out k hkx us w' (HWr.out.trans (hw'.mono HWr.out.size)) (hrx.kept (HWr.out.trans (hw'.mono HWr.out.size)) (Nat.le_refl _))
   have HT:=h_ (a3I f hkx)
   have HLL:Hid ((a0d f (l.take k)).length<=1000000):=h_ (by rw[a1Y,List.length_take];omega)
   generalize hM1:a0d f (l.take (k+1))=M1 at HT
   have HM1:=h_ hM1
   clear hM1
   generalize a0d f (l.take k)=M at HT HLL HO
   generalize a0e f l[k]=y at HT HIK
   generalize l[k]=xk at hrx HIK
   obtain⟨eop,eint,evk,evi,evs,enm,el⟩:=xk
   obtain⟨ea,em,rfl,_⟩:=hrx.lits
   obtain⟨e0,e1,e2,e3,e4,e5,e6⟩:=hec.c7 HWr.out
   clear hrx hec
   go_upto_region 5 with(fail)
   refine nA fun w3 hB3 hw3 hsz3=>?_
   have HW3:=h_ hw3
   obtain⟨z0,z1,z2,z3,z4,z5,z6⟩:=hB3.c7
   clear hB3 hw3 hsz3 e0 e1 e2 e3 e4 e5 e6
   go_wp2_with fail
   refine(HIK.out w3 HW3.out).mono ?_
   intro e w5 hp
   obtain⟨yop,yint,yvk,yvi,yvs,ynm,yl⟩:=y
   obtain⟨⟨ya,ym,rfl,hxf⟩,hw5⟩:=hp
   simp only[xc] at hxf |-
   have HXG:=h_ hxf
   have HW5:=t_ HW3 hw5
   have HO5:=h_ (HO.out.below HW5.out)
   have HSN:=h_ (Nat.le_trans HBB.out.size HW5.out.size)
   have HS3:Hid (w1.heap.size<=w3.heap.size):=h_ (Nat.le_trans HBB.out.size HW3.out.size)
   have HVV:Hid (∀g,u5.ownBlock=some g->g<w3.heap.size):=h_ fun g e=>Nat.lt_of_lt_of_le (a3J HO.out g e).2 HW3.out.size
   clear hxf hw5 z0 z1 z2 z3 z4 z5 z6 HIK
   obtain⟨css,hc1,hc2,hc3,hc4⟩:=(HO5.out.below (d_ w5 (.cells ([.int .i64 yop,.int .i64 yint,.int .i64 yvk,.int .i64 yvi,.string ⟨yvs.toArray⟩,.string ⟨ynm.toArray⟩,.slice ya yl.length ym]:List Value).toArray 26))).row
   have HCS:=h_ hc4
   clear hc4
   go_upto_region 6 with(at_builtin;refine wpList_append_own_at _ rfl (.tmp 15) (.tmp 19) 24 rfl w1.heap.size 26 ix _ 7 88 Tryz.underlying24 hix hx0 hx1 hx2 rfl (by omega) u5 M.length _ rfl hc3 ⟨w5.heap.size,0,none⟩ 1 1 [.int .i64 yop,.int .i64 yint,.int .i64 yvk,.int .i64 yvi,.string ⟨yvs.toArray⟩,.string ⟨ynm.toArray⟩,.slice ya yl.length ym] rfl rfl (fun j u hj=>by rw[Addr.add_lit];exact(Blk.new w5 [.int .i64 yop,.int .i64 yint,.int .i64 yvk,.int .i64 yvi,.string ⟨yvs.toArray⟩,.string ⟨ynm.toArray⟩,.slice ya yl.length ym] 26).cell _ (by simpa using hj)) (fun u hu=>by simp at hu;rcases hu with rfl|rfl|rfl|rfl|rfl|rfl|rfl<;>rfl) (by have:=HLL.out;unfold maxLen;omega) (by have:=HLL.out;omega) (Nat.le_trans HSN.out (by simp)) ?_)
   intro v5 w6 hrow hg5 _ hat5
   have hb56:Below w1.heap.size w5 w6:=((Below.refl _ w5).alloc HSN.out _).grown hg5 (Nat.le_trans HSN.out (by simp)) (fun g e=>(a3J HO5.out g e).1)
   have HN:=h_ (OwnX.snoc hc1 hc2 rfl HCS.out (HXG.out.below (d_ w5 _) (Nat.le_refl _)) HS3.out (by simp) (fun g e=>.inl (HVV.out g e)) hrow hg5 (by simpa using hat5))
   have HB6:=h_ (HBB.out.trans ((HW5.out.mono HBB.out.size).trans hb56))
   clear hrow hg5 hat5 hb56 hc1 hc2 hc3
   go_wp2_with fail
   go_roundw
   case rel=>exact⟨k+1,by omega,by go_num,by rw[HM1.out,HT.out];exact HN.out,HB6.out⟩
   case measure=>simp[intOf];omega
  ·obtain rfl:k=l.length:=by omega
   have d1:decide ((l.length:Int)<(l.length:Int))=false:=decide_eq_false (by omega)
   rw[List.take_length] at HO
   obtain⟨⟨av,cv,ev⟩,hdone⟩:=HO.out.done (by rw[a1Y];exact hn)
   have HDN:=h_ hdone
   clear hdone HO
   generalize hM:a0d f l=M at HDN ev HR
   have HM:=h_ hM
   clear hM
   subst ev
   have f06:=HD0.out.free 6
   have p06:=HD0.out.cell 6 rfl
   go_upto_region 8 with(fail)
   refine a0p (K:=Code.wp _ _ _ _) HD0.out fun w7 hL hw7 hs7 ho7=>?_
   have HL0:=h_ hL
   have HD7:Hid (Blk w7 (w.heap.size+1) _ 26):=h_ ((ho7 _ (by omega)).trans HD1.out)
   have HW7:=h_ (HWr.out.trans hw7)
   have HXL:Hid (∀w'':World,(∀b,w1.heap.size<=b->b<w7.heap.size->w''.heap[b]? = w7.heap[b]?)->XL w'' M (.slice av M.length cv)):=h_ fun w'' h=>HDN.out w'' fun b b1 b2=>(h b b1 (by rw[hs7];exact b2)).trans (ho7 b (by have:=HS1.out;omega))
   have HSL:Hid (w1.heap.size<=w7.heap.size):=h_ (by rw[hs7];exact HBB.out.size)
   clear hL hw7 hs7 ho7 f06 p06 HD0 HD1 HDN
   obtain⟨z0,z1,z2,z3,z4,z5,z6⟩:=HL0.out.c7
   by_cases h2:op=2
   ·have HRR:Hid (R=f (.mk op int vk vi vs nm M)):=h_ (by rw[HR.out,if_pos h2])
    have HC:=h_ (HFF.out M _ w7 w1.heap.size h2 HM.out.symm HW7.out HW1.out.size HSL.out (fun w'' h=>a4P w'' op int vk vi vs nm M _ HV1.out HV2.out (HXL.out w'' h)))
    have d2:(op==2)=true:=by simp[h2]
    generalize f (.mk op int vk vi vs nm M)=y at HRR HC
    have hg:=HG.out
    clear h2 HR HFF
    go_wp2_with fail
    refine HC.out.mono ?_
    intro e w8 hp
    obtain⟨yop,yint,yvk,yvi,yvs,ynm,yl⟩:=y
    obtain⟨⟨ya,ym,rfl,hxf⟩,hw8⟩:=hp
    simp only[xc] at hxf |-
    have HXF:=h_ hxf
    have HD8:=h_ (HD7.out.below hw8)
    have HW8:=t_ HW7 hw8
    have HSZ:Hid (w.heap.size+1<w7.heap.size):=h_ HD7.out.lt
    clear hxf hw8 z0 z1 z2 z3 z4 z5 z6 HC hg
    obtain⟨r0,r1,r2,r3,r4,r5,r6,f0,f1,f2,f3,f4,f5,f6⟩:=HD8.out.f7
    go_wp2_with fail
    refine a0K (K:=fun w'=>bodyPost _ _ _ _ _ w') HD8.out fun w10 hM=>?_
    exact bodyPost_ret (results_cell_row Tryz.results203 _ _ (w.heap.size+1) _ _ (0,0) _ rfl hM.blk Tryz.underlying26 rfl (by kernel_rfl)) rfl ⟨by rw[HRR.out];exact⟨ya,ym,rfl,HXF.out.same (fun b b1 b2=>hM.far b (by have:=HS1.out;omega)) HW1.out.size (by rw[hM.size];exact Nat.le_refl _)⟩,HW8.out.trans (hM.low.mono (by omega))⟩
   ·have HRR:Hid (R=.mk op int vk vi vs nm M):=h_ (by rw[HR.out,if_neg h2])
    have d2:(op==2)=false:=by simp[h2]
    clear h2 HR HFF
    obtain⟨r0,r1,r2,r3,r4,r5,r6,f0,f1,f2,f3,f4,f5,f6⟩:=HD7.out.f7
    go_wp2_with fail
    refine a0K (K:=fun w'=>bodyPost _ _ _ _ _ w') HD7.out fun w10 hM=>?_
    exact bodyPost_ret (results_cell_row Tryz.results203 _ _ (w.heap.size+1) _ _ (0,0) _ rfl hM.blk Tryz.underlying26 rfl (by kernel_rfl)) rfl ⟨by rw[HRR.out];exact⟨av,cv,rfl,fun w'' hw''=>a4P w'' op int vk vi vs nm M _ HV1.out HV2.out (HXL.out w'' fun b b1 b2=>(hw'' b (by have:=HS1.out;omega) (by rw[hM.size];exact b2)).trans (hM.far b (by have:=HS1.out;omega)))⟩,HW7.out.trans (hM.low.mono (by omega))⟩
theorem a4z(f:X->X)(G:FuncId)(caps:Array Value)(hG:∀args w,Sem.run Tryz.prog (callFunc G args) w=.ok (.enter G args) w)(w0:World)(hF:∀(y:X) (us:List Value) (w':World) (lo:Nat),y.op=2->Below w0.heap.size w0 w'->lo<=w'.heap.size->XF lo w'.heap.size w' y us->Calls Tryz.prog G (#[.agg us.toArray]++caps) w' (a7e lo w' (f y))) :
  ∀(N:Nat) (x:X) (cs:List Value) (w:World),nodes x<=N->N<=1000000->Below w0.heap.size w0 w->XR w x cs->Calls Tryz.prog 203 #[.agg cs.toArray,.func (.func G) #[] caps] w (a2V w (a0e f x))
 |0,x,_,_,h,_,_,_=>absurd (U_ x) (by omega)
 |N+1,.mk op int vk vi vs nm l,cs,w,hn,hN,hw,h=>by
  rw[nodes] at hn
  exact a7v f G caps hG op int vk vi vs nm l cs w (by have:=a0B l;omega) h (fun ys us w' lo h2 _ hw' _ hlo hx=>hF _ us w' lo h2 (hw.trans (hw'.mono hw.size)) hlo hx)
   fun k hk us w' hw' hx=>a4z f G caps hG w0 hF N l[k] us w' (by have:=M_ (List.getElem_mem (l:=l) hk);omega) (by omega) (hw.trans (hw'.mono hw.size)) hx
theorem a9l{f:FuncId}{fn:Func}{c:Code}(hf:Tryz.prog.funcs[f]? = some fn)(hname:(fn.name == "runtime.NumGoroutine")=false)(hb:fn.body=some c)(args:Array Value)(w:World):Sem.run Tryz.prog (callFunc f args) w=.ok (.enter f args) w:=by
 have h1:¬fn.name = "runtime.NumGoroutine" := by simpa using hname
 simp[callFunc,hf,h1,hb]
mutual
def a2n(n:Nat):X->Prop
 |.mk op int vk vi vs nm l=>(op=2->(0<=int/\int<n)/\vk=0/\vi=0/\vs=[]/\nm=[]/\l=[])/\a5f n l
def a5f(n:Nat):List X->Prop
 |[]=>True
 |x::l=>a2n n x/\a5f n l
end
theorem a7f{n:Nat}{x:X}:∀ {l:List X},a5f n l->x∈l->a2n n x
 |y::l,h,hm=>by
  rw[a5f] at h
  rcases List.mem_cons.1 hm with rfl|hm
  ·exact h.1
  ·exact a7f h.2 hm
def a1x(int:Int):X:=.mk 2 int 0 0 [] [] []
theorem a7x(f:X->X)(n:Nat)(G:FuncId)(caps:Array Value)(hG:∀args w,Sem.run Tryz.prog (callFunc G args) w=.ok (.enter G args) w)(w0:World)(hF:∀(int:Int) (us:List Value) (w':World) (lo:Nat),0<=int->int<n->Below w0.heap.size w0 w'->lo<=w'.heap.size->XF lo w'.heap.size w' (a1x int) us->Calls Tryz.prog G (#[.agg us.toArray]++caps) w' (a7e lo w' (f (a1x int)))) :
  ∀(N:Nat) (x:X) (cs:List Value) (w:World),nodes x<=N->N<=1000000->a2n n x->Below w0.heap.size w0 w->XR w x cs->Calls Tryz.prog 203 #[.agg cs.toArray,.func (.func G) #[] caps] w (a2V w (a0e f x))
 |0,x,_,_,h,_,_,_,_=>absurd (U_ x) (by omega)
 |N+1,.mk op int vk vi vs nm l,cs,w,hn,hN,hr,hw,h=>by
  rw[nodes] at hn
  rw[a2n] at hr
  refine a7v f G caps hG op int vk vi vs nm l cs w (by have:=a0B l;omega) h (fun ys us w' lo h2 h3 hw' _ hlo hx=>?_)
   fun k hk us w' hw' hx=>a7x f n G caps hG w0 hF N l[k] us w' (by have:=M_ (List.getElem_mem (l:=l) hk);omega) (by omega) (a7f hr.2 (List.getElem_mem hk)) (hw.trans (hw'.mono hw.size)) hx
  obtain⟨⟨e1,e2⟩,rfl,rfl,rfl,rfl,rfl⟩:=hr.1 h2
  subst h2
  have e3:ys=[]:=h3
  subst e3
  exact hF int us w' lo e1 e2 (hw.trans (hw'.mono hw.size)) hlo hx
theorem b7q(y:X)(us:List Value)(w:World)(lo:Nat)(hlo:lo<=w.heap.size)(h:XF lo w.heap.size w y us):Calls Tryz.prog 206 #[.agg us.toArray] w (a7e lo w y):=by
 obtain⟨op,int,vk,vi,vs,nm,l⟩:=y
 obtain⟨a,m,rfl,_⟩:=h.now.lits
 have HX:=h_ h
 clear h
 go_enter Tryz.func206,Tryz.ntmps206
 go_upto_region 1 with(fail)
 refine nB fun w1 hB0 hB1 hw1 hsz=>?_
 have HB1:=h_ hB1
 have HW1:=h_ hw1
 obtain⟨z0,z1,z2,z3,z4,z5,z6⟩:=hB0.c7
 obtain⟨r0,r1,r2,r3,r4,r5,r6,f0,f1,f2,f3,f4,f5,f6⟩:=hB1.f7
 clear hB0 hB1 hw1 hsz
 go_wp2_with fail
 refine a0K (K:=fun w'=>bodyPost _ _ _ _ _ w') HB1.out fun w10 hM=>?_
 exact bodyPost_ret (results_cell_row Tryz.results206 _ _ (w.heap.size+1) _ _ (0,0) _ rfl hM.blk Tryz.underlying26 rfl (by kernel_rfl)) rfl ⟨⟨a,m,rfl,(HX.out.below HW1.out (Nat.le_refl _)).same (fun b b1 b2=>hM.far b (by omega)) (Nat.le_refl _) (by rw[hM.size];exact HW1.out.size)⟩,HW1.out.trans (hM.low.mono (by omega))⟩
def shX(n:Int):X->X|.mk op int vk vi vs nm l=>.mk op (wrap64 (int+n)) vk vi vs nm l
theorem XF.c2w{lo hi:Nat}{w:World}{op int vk vi:Int}{vs nm:S}{l:List X}{a:Option Addr}{m:Nat}(h:XF lo hi w (.mk op int vk vi vs nm l) (xc (.mk op int vk vi vs nm l) a m))(i2:Int):XF lo hi w (.mk op i2 vk vi vs nm l) (xc (.mk op i2 vk vi vs nm l) a m):=fun w' hw=>by
 obtain⟨a',m',e,hl,h1,h2,_⟩:=(h w' hw).lits
 simp[xc] at e
 obtain⟨rfl,rfl⟩:=e
 exact a4P w' op i2 vk vi vs nm l _ h1 h2 hl
theorem b3C(n:Int)(g:Nat)(y:X)(us:List Value)(w:World)(lo:Nat)(hb:Blk w g [.int .i64 n] 3)(hlo:lo<=w.heap.size)(h:XF lo w.heap.size w y us):Calls Tryz.prog 204 #[.agg us.toArray,.pointer (some ⟨g,0,none⟩)] w (a7e lo w (shX n y)):=by
 obtain⟨op,int,vk,vi,vs,nm,l⟩:=y
 obtain⟨a,m,rfl,_⟩:=h.now.lits
 have HX:=h_ (h.c2w (wrap64 (int+n)))
 clear h
 go_enter Tryz.func204,Tryz.ntmps204
 go_upto_region 1 with(fail)
 refine nB fun w1 hB0 hB1 hw1 hsz=>?_
 have HB0:=h_ hB0
 have HB1:=h_ hB1
 have HW1:=h_ hw1
 have c0:=(hb.below hw1).cell 0 rfl
 obtain⟨z0,z1,z2,z3,z4,z5,z6⟩:=hB0.c7
 have f1:=hB0.free 1
 clear hB0 hB1 hw1 hsz hb
 go_upto_region 2 with(fail)
 refine a0p (K:=Code.wp _ _ _ _) HB0.out fun w2 hL hw2 hs2 ho2=>?_
 have HB2:Hid (Blk w2 (w.heap.size+1) _ 26):=h_ ((ho2 _ (by omega)).trans HB1.out)
 have HW2:=h_ (HW1.out.trans hw2)
 clear z0 z1 z2 z3 z4 z5 z6 f1 c0 HB0 HB1
 obtain⟨z0,z1,z2,z3,z4,z5,z6⟩:=hL.c7
 obtain⟨r0,r1,r2,r3,r4,r5,r6,f0,f1,f2,f3,f4,f5,f6⟩:=HB2.out.f7
 clear hL hw2 hs2 ho2
 go_wp2_with fail
 refine a0K (K:=fun w'=>bodyPost _ _ _ _ _ w') HB2.out fun w10 hM=>?_
 exact bodyPost_ret (results_cell_row Tryz.results204 _ _ (w.heap.size+1) _ _ (0,0) _ rfl hM.blk Tryz.underlying26 rfl (by kernel_rfl)) rfl ⟨⟨a,m,rfl,(HX.out.below HW2.out (Nat.le_refl _)).same (fun b b1 b2=>hM.far b (by omega)) (Nat.le_refl _) (by rw[hM.size];exact HW2.out.size)⟩,HW2.out.trans (hM.low.mono (by omega))⟩
theorem XF.leaf(lo hi:Nat)(w:World)(op int vk vi:Int)(vs nm:S)(h1:vs.length<=maxLen)(h2:nm.length<=maxLen):XF lo hi w (.mk op int vk vi vs nm []) (xc (.mk op int vk vi vs nm []) none 0):=fun w' _=>b2p w' op int vk vi vs nm h1 h2
theorem b7T(L:List X)(g:Nat)(a:Option Addr)(m:Nat)(int:Int)(us:List Value)(w:World)(lo:Nat)(hL:L.length<=1000000)(hnl:∀x∈L,x.op ≠ 2/\nodes x<=1000000)(k:Nat)(h0:int=k)(h1:k<L.length)(hb:Blk w g [.slice a L.length m] 24)(hl:XL w L (.slice a L.length m))(hlo:lo<=w.heap.size)(h:XF lo w.heap.size w (a1x int) us):Calls Tryz.prog 205 #[.agg us.toArray,.pointer (some ⟨g,0,none⟩)] w (a7e lo w (a0e id L[k])):=by
 obtain⟨a5,m5,rfl,_⟩:=h.now.lits
 obtain⟨p,o,vs,eq,hec,hkx,hrx⟩:=hl.ec h1
 subst eq
 have HR:=h_ fun(w':World) (hw':Below w.heap.size w w')=>a4z id 206 #[] (a9l Tryz.func206 (by kernel_rfl) rfl) w' (fun y us w2 lo _ _ hlo h=>by simpa using b7q y us w2 lo hlo h) 1000000 (L[k]) vs w' (hnl _ (List.getElem_mem _)).2 (Nat.le_refl _) (Below.refl _ _) (hrx.kept hw' (Nat.le_refl _))
 generalize a0e id L[k]=R at HR |-
 generalize L[k]=xk at hrx HR
 obtain⟨eop,eint,evk,evi,evs,enm,el⟩:=xk
 obtain⟨ea,em,rfl,_⟩:=hrx.lits
 subst h0
 have k1:(k:Int)<(L.length:Int):=by omega
 have k0:(0:Int)<=(k:Int):=by omega
 go_enter Tryz.func205,Tryz.ntmps205
 go_upto_region 1 with(fail)
 refine nB fun w1 hB0 hB1 hw1 hsz=>?_
 have HB0:=h_ hB0
 have HB1:=h_ hB1
 have HW1:=h_ hw1
 have HSZ:Hid (w.heap.size+1<w1.heap.size):=h_ (by omega)
 have c0:=(hb.below hw1).cell 0 rfl
 obtain⟨z0,z1,z2,z3,z4,z5,z6⟩:=hB0.c7
 have d1:decide ((k:Int)<0)=false:=decide_eq_false (by omega)
 have d2:decide ((L.length:Int)<=(k:Int))=false:=decide_eq_false (by omega)
 obtain⟨e0,e1,e2,e3,e4,e5,e6⟩:=hec.c7 HW1.out
 clear hec hB0 hB1 hw1 hsz hb hl hrx h
 go_wp2_with fail
 refine(HR.out w1 HW1.out).mono ?_
 intro e w3 hp
 obtain⟨yop,yint,yvk,yvi,yvs,ynm,yl⟩:=R
 obtain⟨⟨ya,ym,rfl,hxf⟩,hw3⟩:=hp
 simp only[xc] at hxf |-
 have HXF:=h_ hxf
 have HB3:=h_ (HB1.out.below hw3)
 have HW3:=t_ HW1 hw3
 have HS1:=h_ hw3.size
 have HLO:Hid (lo<=w.heap.size):=h_ hlo
 clear hxf hw3 c0 z0 z1 z2 z3 z4 z5 z6 e0 e1 e2 e3 e4 e5 e6 HR HB0 HB1
 obtain⟨r0,r1,r2,r3,r4,r5,r6,f0,f1,f2,f3,f4,f5,f6⟩:=HB3.out.f7
 go_wp2_with fail
 refine a0K (K:=fun w'=>bodyPost _ _ _ _ _ w') HB3.out fun w10 hM=>?_
 exact bodyPost_ret (results_cell_row Tryz.results205 _ _ (w.heap.size+1) _ _ (0,0) _ rfl hM.blk Tryz.underlying26 rfl (by kernel_rfl)) rfl ⟨⟨ya,ym,rfl,HXF.out.same (fun b b1 b2=>hM.far b (by have:=HSZ.out;omega)) (Nat.le_trans HLO.out HW1.out.size) (by rw[hM.size];exact Nat.le_refl _)⟩,HW3.out.trans (hM.low.mono (by omega))⟩
def a5q(L:List X):X->X|.mk op int vk vi vs nm l=>a0e id (L.getD int.toNat (.mk op int vk vi vs nm l))
theorem b3L{L:List X}{k:Nat}(h:k<L.length):a5q L (a1x k)=a0e id L[k]:=by
 show a0e id (L.getD (k:Int).toNat (.mk 2 (k:Int) 0 0 [] [] []))=a0e id L[k]
 rw[Int.toNat_natCast,List.getD_eq_getElem?_getD,List.getElem?_eq_getElem h,Option.getD_some]
theorem b5E(L:List X)(a:Option Addr)(m:Nat)(x:X)(cs:List Value)(w:World)(hn:nodes x<=1000000)(hL:L.length<=1000000)(hnl:∀x∈L,x.op ≠ 2/\nodes x<=1000000)(hr:a2n L.length x)(hl:XL w L (.slice a L.length m))(h:XR w x cs):Calls Tryz.prog 129 #[.agg cs.toArray,.slice a L.length m] w (a2V w (a0e (a5q L) x)):=by
 have HR:=h_ fun(w':World) (hw':Below w.heap.size w w') (hb:Blk w' (w.heap.size+1) [.slice a L.length m] 24)=>a7x (a5q L) L.length 205 #[.pointer (some ⟨w.heap.size+1,0,none⟩)] (a9l Tryz.func205 (by kernel_rfl) rfl) w'
  (fun int us w2 lo h0 h1 hw2 hlo hx=>by
   obtain⟨k,rfl⟩:=Int.eq_ofNat_of_zero_le h0
   have hk:k<L.length:=by omega
   have hq:a5q L (a1x (k:Int))=a0e id L[k]:=b3L hk
   rw[hq]
   simpa using b7T L (w.heap.size+1) a m k us w2 lo hL hnl k rfl hk (hb.below hw2) (hl.kept (hw'.trans (hw2.mono hw'.size)) (Nat.le_refl _)) hlo hx) 1000000 x cs w' hn (Nat.le_refl _) hr (Below.refl _ _) (h.kept hw' (Nat.le_refl _))
 generalize a0e (a5q L) x=R at HR |-
 clear hnl hr hl
 obtain⟨op,int,vk,vi,vs,nm,l⟩:=x
 obtain⟨a5,m5,rfl,_⟩:=h.lits
 clear h
 go_enter Tryz.func129,Tryz.ntmps129
 go_upto_region 1 with(fail)
 refine a0X (K:=Code.wp _ _ _ _) fun w1 hB0 hB1 hB2 hw1 hsz=>?_
 have HB1:=h_ hB1
 have HB2:=h_ hB2
 have HW1:=h_ hw1
 have HSZ:Hid (w.heap.size+1+1<w1.heap.size):=h_ (by omega)
 obtain⟨z0,z1,z2,z3,z4,z5,z6⟩:=hB0.c7
 clear hB0 hB1 hB2 hw1 hsz
 go_wp2_with fail
 refine(HR.out w1 HW1.out HB1.out).mono ?_
 intro e w3 hp
 obtain⟨yop,yint,yvk,yvi,yvs,ynm,yl⟩:=R
 obtain⟨⟨ya,ym,rfl,hxf⟩,hw3⟩:=hp
 simp only[xc] at hxf |-
 have HXF:=h_ hxf
 have HB3:=h_ (HB2.out.below hw3)
 have HW3:=t_ HW1 hw3
 clear hxf hw3 z0 z1 z2 z3 z4 z5 z6 HR HB1 HB2
 obtain⟨r0,r1,r2,r3,r4,r5,r6,f0,f1,f2,f3,f4,f5,f6⟩:=HB3.out.f7
 go_wp2_with fail
 refine a0K (K:=fun w'=>bodyPost _ _ _ _ _ w') HB3.out fun w10 hM=>?_
 exact bodyPost_ret (results_cell_row Tryz.results129 _ _ (w.heap.size+1+1) _ _ (0,0) _ rfl hM.blk Tryz.underlying26 rfl (by kernel_rfl)) rfl ⟨⟨ya,ym,rfl,HXF.out.same (fun b b1 b2=>hM.far b (by have:=HSZ.out;omega)) HW1.out.size (by rw[hM.size];exact Nat.le_refl _)⟩,HW3.out.trans (hM.low.mono (by omega))⟩
theorem b4N(n:Int)(x:X)(cs:List Value)(w:World)(hn:nodes x<=1000000)(h:XR w x cs):Calls Tryz.prog 128 #[.agg cs.toArray,.int .i64 n] w (a2V w (a0e (shX n) x)):=by
 have HR:=h_ fun(w':World) (hw':Below w.heap.size w w') (hb:Blk w' (w.heap.size+1) [.int .i64 n] 3)=>a4z (shX n) 204 #[.pointer (some ⟨w.heap.size+1,0,none⟩)] (a9l Tryz.func204 (by kernel_rfl) rfl) w'
  (fun y us w2 lo _ hw2 hlo hx=>by simpa using b3C n (w.heap.size+1) y us w2 lo (hb.below hw2) hlo hx) 1000000 x cs w' hn (Nat.le_refl _) (Below.refl _ _) (h.kept hw' (Nat.le_refl _))
 generalize a0e (shX n) x=R at HR |-
 obtain⟨op,int,vk,vi,vs,nm,l⟩:=x
 obtain⟨a5,m5,rfl,_⟩:=h.lits
 clear h
 go_enter Tryz.func128,Tryz.ntmps128
 go_upto_region 1 with(fail)
 refine a0X (K:=Code.wp _ _ _ _) fun w1 hB0 hB1 hB2 hw1 hsz=>?_
 have HB1:=h_ hB1
 have HB2:=h_ hB2
 have HW1:=h_ hw1
 have HSZ:Hid (w.heap.size+1+1<w1.heap.size):=h_ (by omega)
 obtain⟨z0,z1,z2,z3,z4,z5,z6⟩:=hB0.c7
 clear hB0 hB1 hB2 hw1 hsz
 go_wp2_with fail
 refine(HR.out w1 HW1.out HB1.out).mono ?_
 intro e w3 hp
 obtain⟨yop,yint,yvk,yvi,yvs,ynm,yl⟩:=R
 obtain⟨⟨ya,ym,rfl,hxf⟩,hw3⟩:=hp
 simp only[xc] at hxf |-
 have HXF:=h_ hxf
 have HB3:=h_ (HB2.out.below hw3)
 have HW3:=t_ HW1 hw3
 clear hxf hw3 z0 z1 z2 z3 z4 z5 z6 HR HB1 HB2
 obtain⟨r0,r1,r2,r3,r4,r5,r6,f0,f1,f2,f3,f4,f5,f6⟩:=HB3.out.f7
 go_wp2_with fail
 refine a0K (K:=fun w'=>bodyPost _ _ _ _ _ w') HB3.out fun w10 hM=>?_
 exact bodyPost_ret (results_cell_row Tryz.results128 _ _ (w.heap.size+1+1) _ _ (0,0) _ rfl hM.blk Tryz.underlying26 rfl (by kernel_rfl)) rfl ⟨⟨ya,ym,rfl,HXF.out.same (fun b b1 b2=>hM.far b (by have:=HSZ.out;omega)) HW1.out.size (by rw[hM.size];exact Nat.le_refl _)⟩,HW3.out.trans (hM.low.mono (by omega))⟩
theorem a2S(w:World):(zeroValue 3).run Tryz.prog w=.ok (.int .i64 0) w:=by kernel_rfl
def b4U:List S->DataW Unit
 |[]=>.map []
 |s::r=>(b4U r).put (.string s) (.lit (.int .i64 1))
def b2s(m:List S):DataW Unit:=b4U m.reverse
theorem a8v:∀m,Go.Maps.IsMap (b4U m)
 |[]=>Go.Maps.isMap_empty
 |s::r=>(a8v r).put _ _
theorem b2E(m:List S):Go.Maps.IsMap (b2s m):=a8v _
theorem b8g(m:List S)(s:S):b2s (m++[s])=(b2s m).put (.string s) (.lit (.int .i64 1)):=by
 unfold b2s
 rw[List.reverse_append]
 rfl
theorem b4g{s:S}:∀ {m:List S},s∈m -> ∀z,(b4U m).atKey (.string s) z=.lit (.int .i64 1)
 |[],h,_=>absurd h (by simp)
 |a::r,h,z=>by
  rw[b4U]
  by_cases e:s=a
  ·subst e
   exact Go.Maps.atKey_put_same (a8v r) (by simp[Go.WideAt.IsKeyLit]) _ _
  ·rw[Go.Maps.atKey_put_other (by intro he;injection he with he;exact e he)]
   exact b4g (by rcases List.mem_cons.1 h with h|h;exact absurd h e;exact h) z
theorem b6Q{s:S}:∀ {m:List S},s ∉ m -> ∀z,(b4U m).atKey (.string s) z=z
 |[],_,_=>rfl
 |a::r,h,z=>by
  rw[b4U,Go.Maps.atKey_put_other (by intro he;injection he with he;exact h (by rw[he];simp))]
  exact b6Q (fun hr=>h (List.mem_cons_of_mem _ hr)) z
theorem b9C{s:S}{m:List S}(h:s∈m)(z:DataW Unit):(b2s m).atKey (.string s) z=.lit (.int .i64 1):=b4g (by simpa using h) z
theorem c0j{s:S}{m:List S}(h:s ∉ m)(z:DataW Unit):(b2s m).atKey (.string s) z=z:=b6Q (by simpa using h) z
theorem a2Y{a c:Int}(h:(DataW.lit (.int .i64 c):DataW Unit)=.lit (.int .i64 a)):c=a:=by
 injection h with h
 injection h
theorem b7G{K:World->Prop}{w:World}(h:∀w',w'.ownsMap Tryz.prog 9 (plainElem (H:=Unit) Tryz.prog 3) w.heap.size 0 (b2s [])->Below w.heap.size w w'->w'.heap.size=w.heap.size+1->K w'):K (w.alloc (.map #[] 0)):=
 h _ (World.ownsMap_made _ _ _ _) (d_ _ _) (by simp)
def a8W:List Int->DataW Unit
 |[]=>.map []
 |s::r=>(a8W r).put (.int .i64 s) (.lit (.int .i64 1))
def a5K(m:List Int):DataW Unit:=a8W m.reverse
theorem a7t:∀m,Go.Maps.IsMap (a8W m)
 |[]=>Go.Maps.isMap_empty
 |s::r=>(a7t r).put _ _
theorem b1l(m:List Int):Go.Maps.IsMap (a5K m):=a7t _
theorem b5a(m:List Int)(s:Int):a5K (m++[s])=(a5K m).put (.int .i64 s) (.lit (.int .i64 1)):=by
 unfold a5K
 rw[List.reverse_append]
 rfl
theorem b0J{s:Int}:∀ {m:List Int},s∈m -> ∀z,(a8W m).atKey (.int .i64 s) z=.lit (.int .i64 1)
 |[],h,_=>absurd h (by simp)
 |a::r,h,z=>by
  rw[a8W]
  by_cases e:s=a
  ·subst e
   exact Go.Maps.atKey_put_same (a7t r) (by simp[Go.WideAt.IsKeyLit]) _ _
  ·rw[Go.Maps.atKey_put_other (by intro he;injection he with _ he;exact e he)]
   exact b0J (by rcases List.mem_cons.1 h with h|h;exact absurd h e;exact h) z
theorem b3p{s:Int}:∀ {m:List Int},s ∉ m -> ∀z,(a8W m).atKey (.int .i64 s) z=z
 |[],_,_=>rfl
 |a::r,h,z=>by
  rw[a8W,Go.Maps.atKey_put_other (by intro he;injection he with _ he;exact h (by rw[he];simp))]
  exact b3p (fun hr=>h (List.mem_cons_of_mem _ hr)) z
theorem b7Q{s:Int}{m:List Int}(h:s∈m)(z:DataW Unit):(a5K m).atKey (.int .i64 s) z=.lit (.int .i64 1):=b0J (by simpa using h) z
theorem b9A{s:Int}{m:List Int}(h:s ∉ m)(z:DataW Unit):(a5K m).atKey (.int .i64 s) z=z:=b3p (by simpa using h) z
theorem b7y{K:World->Prop}{w:World}(h:∀w',w'.ownsMap Tryz.prog 3 (plainElem (H:=Unit) Tryz.prog 3) w.heap.size 0 (a5K [])->Below w.heap.size w w'->w'.heap.size=w.heap.size+1->K w'):K (w.alloc (.map #[] 0)):=
 h _ (World.ownsMap_made _ _ _ _) (d_ _ _) (by simp)
theorem b7v:Go.Maps.Keyed Tryz.prog 3:=Go.Maps.int_keyed Tryz.underlying3
theorem T_{P:Program}{ops:Array Oper}{rest:List Oper}{o:Oper}{a:Act}{Q:Exit->Act->World->Prop}{w:World}(hw:Region.wanted o (yielded ops a.tmps)=true)(h:wpList P ops Q ({o with guard:=none}::rest) a w):wpList P ops Q (o::rest) a w:=by
 unfold wpList at h |-
 rw[if_pos (by simp[Region.wanted])] at h
 rw[if_pos hw]
 exact h
theorem a4m{w:World}{L:List Col}{v:Value}(h:CL w L v):∀c∈L,c.nm.length<=maxLen:=fun c hc=>by
 obtain⟨i,hi,rfl⟩:=List.getElem_of_mem hc
 obtain⟨_,_,_,ys,e1,e2,_,_,_,hx⟩:=h.I_ Tryz.underlying49
 injection e2 with e2
 subst e2
 obtain⟨_,us,_,_,hu⟩:=hx i (by simpa using hi)
 rw[List.getElem_map] at hu
 obtain⟨s,q,b,_,e,hs⟩:=a1y hu
 unfold a5h at e
 injection e with e
 injection e with e0 _
 injection e0 with e0
 unfold S_ at e0
 injection e0 with e0
 rw[<-e0] at hs
 simpa[ByteArray.size] using hs
theorem a5T{L:List Col}:Distinct L ↔ ∀j (h:j<L.length),L[j].nm ∉ (L.take j).map (·.nm):=by
 constructor
 ·intro hd j h hm
  obtain⟨c,hc,e⟩:=List.mem_map.1 hm
  obtain⟨i,hi,rfl⟩:=List.getElem_of_mem hc
  rw[List.length_take] at hi
  rw[List.getElem_take] at e
  have:=hd i j (by omega) h e
  omega
 ·intro ha i j hi hj e
  have key:∀i j (hi:i<L.length) (hj:j<L.length),L[i].nm=L[j].nm -> ¬i<j:=fun i j hi hj e hlt=>ha j hj (List.mem_map.2 ⟨L[i],List.mem_iff_getElem.2 ⟨i,by rw[List.length_take];omega,by rw[List.getElem_take]⟩,e⟩)
  have h1:=key i j hi hj e
  have h2:=key j i hj hi e.symm
  omega
def nmC(c:Col):X:=.mk 3 0 0 0 [] c.nm []
def nmX(L:List Col)(x:X):X:=a0e (a5q (L.map nmC)) x
theorem b7R(c:Col):nodes (nmC c)<=1000000:=by unfold nmC;simp[nodes,j_]
theorem b3E(L:List Col)(tn:S)(a a2 a3 a4:Option Addr)(m n2 m2 n3 m3 n4 m4:Nat)(x:X)(cs:List Value)(w:World)(hn:nodes x<=1000000)(hL:L.length<=1000000)(hr:a2n L.length x)(hl:CL w L (.slice a L.length m))(h:XR w x cs):Calls Tryz.prog 55 #[.agg cs.toArray,.agg #[.string ⟨tn.toArray⟩,.slice a L.length m,.slice a2 n2 m2,.slice a3 n3 m3,.slice a4 n4 m4]] w (a2V w (nmX L x)):=by
 obtain⟨ix,hix,hx0,hx1,hx2⟩:=info_parts a2e
 have HS:=h_ fun(a':Option Addr) (m':Nat) (w':World) (hw':Below w.heap.size w w') (h':XL w' (L.map nmC) (.slice a' (L.map nmC).length m'))=>b5E (L.map nmC) a' m' x cs w' hn (by simpa using hL) (fun y hy=>by
  obtain⟨c,_,rfl⟩:=List.mem_map.1 hy
  exact⟨by show(3:Int) ≠ 2;decide,b7R c⟩) (by simpa using hr) h' (h.kept hw' (Nat.le_refl _))
 have HE:Hid (nmX L x=a0e (a5q (L.map nmC)) x):=h_ rfl
 generalize a0e (a5q (L.map nmC)) x=R0 at HS HE
 generalize nmX L x=R at HE |-
 obtain⟨op,int,vk,vi,vs,nm0,l⟩:=x
 obtain⟨a5,m5,rfl,_⟩:=h.lits
 have HL:=h_ hl
 have HNM:=h_ (a4m hl)
 clear h hl hr hn
 go_enter Tryz.func55,Tryz.ntmps55
 go_upto_region 1 with(fail)
 refine a0X (K:=Code.wp _ _ _ _) fun w1 hB0 hB1 hB2 hw1 hsz=>?_
 have HB0:=h_ hB0
 have HB2:=h_ hB2
 have HW1:=h_ hw1
 have HSZ:Hid (w.heap.size+1+1<w1.heap.size):=h_ (by omega)
 have q1:=hB1.cell 1 rfl
 clear hB0 hB1 hB2 hw1 hsz
 go_upto_region 3 with(fail)
 clear q1
 go_loopw [5,7,11] (fun v _ i wr=>∃k:Nat,k<=L.length/\i=.int .i64 (k:Int)/\OwnX w1.heap.size v ((L.take k).map nmC) wr/\Below w1.heap.size w1 wr) (fun _ _ i _=>L.length - (intOf i).toNat)
 case atStart=>exact⟨0,Nat.zero_le _,rfl,OwnX.nil _ _,Below.refl _ _⟩
 case round=>
  obtain⟨k,hk,rfl,hox,hb⟩:=hrel
  have HD0:=h_ (HB0.out.below hb)
  have HD2:=h_ (HB2.out.below hb)
  have HO:=h_ hox
  have HWr:=t_ HW1 hb
  have HBB:=h_ hb
  clear hb hox
  by_cases hlt:k<L.length
  ·have k1:(k:Int)<(L.length:Int):=by omega
   have k0:(0:Int)<=(k:Int):=by omega
   obtain⟨g,o,eq,hx,hec⟩:=HL.out.at_ hlt
   subst eq
   have c0:=hec.at0 HWr.out rfl
   have c1:=hec.at_ HWr.out (j:=1) rfl
   have c2:=hec.at_ HWr.out (j:=2) rfl
   have HTK:Hid ((L.take (k+1)).map nmC=(L.take k).map nmC++[nmC L[k]]):=h_ (by rw[List.take_add_one,List.getElem?_eq_getElem hx,List.map_append];rfl)
   have HLL:Hid (((L.take k).map nmC).length<=1000000):=h_ (by rw[List.length_map,List.length_take];omega)
   have HNK:=h_ (HNM.out _ (List.getElem_mem hx))
   generalize hM1:(L.take (k+1)).map nmC=M1 at HTK
   have HM1:=h_ hM1
   clear hM1 hec
   generalize(L.take k).map nmC=M at HTK HLL HO
   unfold nmC at HTK
   generalize L[k].nm=nm at c0 HTK HNK
   generalize L[k].kind=kd at c1
   generalize L[k].nul=nl at c2
   go_upto_region 5 with(fail)
   refine nA fun w5 hB5 hw5 hsz5=>?_
   have HW5:=h_ hw5
   have HO5:=h_ (HO.out.below HW5.out)
   have HSN:=h_ (Nat.le_trans HBB.out.size HW5.out.size)
   have z0:=hB5.cell 0 rfl
   clear hB5 hw5 hsz5 c0 c1 c2
   have HVV:Hid (∀g,u5.ownBlock=some g->w1.heap.size<=g/\g<w5.heap.size):=h_ fun g e=>a3J HO5.out g e
   obtain⟨css,hc1,hc2,hc3,hc4⟩:=(HO5.out.below (d_ w5 (.cells ([.int .i64 3,.int .i64 0,.int .i64 0,.int .i64 0,.string ⟨#[]⟩,.string ⟨nm.toArray⟩,.slice none 0 0]:List Value).toArray 26))).row
   have HCS:=h_ hc4
   clear hc4
   go_upto_region 6 with(at_builtin;refine wpList_append_own_at _ rfl (.tmp 15) (.tmp 19) 24 rfl w1.heap.size 26 ix _ 7 88 Tryz.underlying24 hix hx0 hx1 hx2 rfl (by omega) u5 M.length _ rfl hc3 ⟨w5.heap.size,0,none⟩ 1 1 [.int .i64 3,.int .i64 0,.int .i64 0,.int .i64 0,.string ⟨#[]⟩,.string ⟨nm.toArray⟩,.slice none 0 0] rfl rfl (fun j u hj=>by rw[Addr.add_lit];exact(Blk.new w5 [.int .i64 3,.int .i64 0,.int .i64 0,.int .i64 0,.string ⟨#[]⟩,.string ⟨nm.toArray⟩,.slice none 0 0] 26).cell _ (by simpa using hj)) (fun u hu=>by simp at hu;rcases hu with rfl|rfl|rfl|rfl|rfl|rfl|rfl<;>rfl) (by have:=HLL.out;unfold maxLen;omega) (by have:=HLL.out;omega) (Nat.le_trans HSN.out (by simp)) ?_)
   intro v5 w6 hrow hg5 _ hat5
   have hb56:Below w1.heap.size w5 w6:=((Below.refl _ w5).alloc HSN.out _).grown hg5 (Nat.le_trans HSN.out (by simp)) (fun g e=>(HVV.out g e).1)
   have HN:=h_ (OwnX.snoc (lo:=w5.heap.size+1) (hi:=w5.heap.size+1) (x:=.mk 3 0 0 0 [] nm []) hc1 hc2 rfl HCS.out (XF.leaf _ _ _ 3 0 0 0 [] nm (by decide) HNK.out) (by have:=HSN.out;omega) (by simp) (fun g e=>.inl (by have:=(HVV.out g e).2;omega)) hrow hg5 (by simpa using hat5))
   have HB6:=h_ (HBB.out.trans ((HW5.out.mono HBB.out.size).trans hb56))
   clear hrow hg5 hat5 hb56 hc1 hc2 hc3 z0
   go_wp2_with fail
   go_roundw
   case rel=>exact⟨k+1,by omega,by go_num,by rw[HM1.out,HTK.out];exact HN.out,HB6.out⟩
   case measure=>simp[intOf];omega
  ·obtain rfl:k=L.length:=by omega
   rw[List.take_length] at HO
   have HLM:Hid ((L.map nmC).length=L.length):=h_ (by simp)
   obtain⟨⟨av,cv,ev⟩,hdone⟩:=HO.out.done (by rw[List.length_map];exact hL)
   have HDN:=h_ (hdone wr fun b _ _=>rfl)
   clear hdone HO
   subst ev
   rw[HLM.out] at HDN
   have HSS:=h_ fun(w':World) (hw':Below wr.heap.size wr w')=>HS.out av cv w' (HWr.out.trans (hw'.mono HWr.out.size)) (by rw[HLM.out];exact Rp.kept hw' (Nat.le_refl _) HDN.out)
   have HLE:=h_ HLM.out
   generalize(L.map nmC).length=q at HLE HSS HLM
   obtain rfl:q=L.length:=HLE.out
   have d1:decide ((L.length:Int)<(L.length:Int))=false:=decide_eq_false (by omega)
   clear HS HLE HLM
   obtain⟨z0,z1,z2,z3,z4,z5,z6⟩:=HD0.out.c7
   go_wp2_with fail
   refine(HSS.out wr (Below.refl _ _)).mono ?_
   intro e w3 hp
   obtain⟨yop,yint,yvk,yvi,yvs,ynm,yl⟩:=R0
   obtain⟨⟨ya,ym,rfl,hxf⟩,hw3⟩:=hp
   simp only[xc] at hxf |-
   have HXF:=h_ hxf
   have HB3:=h_ (HD2.out.below hw3)
   have HW3:=t_ HWr hw3
   have HLT:Hid (w.heap.size+1+1<wr.heap.size):=h_ HD2.out.lt
   clear hxf hw3 z0 z1 z2 z3 z4 z5 z6 HSS HD0 HD2
   obtain⟨r0,r1,r2,r3,r4,r5,r6,f0,f1,f2,f3,f4,f5,f6⟩:=HB3.out.f7
   go_wp2_with fail
   refine a0K (K:=fun w'=>bodyPost _ _ _ _ _ w') HB3.out fun w10 hM=>?_
   exact bodyPost_ret (results_cell_row Tryz.results55 _ _ (w.heap.size+1+1) _ _ (0,0) _ rfl hM.blk Tryz.underlying26 rfl (by kernel_rfl)) rfl ⟨by rw[HE.out];exact⟨ya,ym,rfl,HXF.out.same (fun b b1 b2=>hM.far b (by have:=HLT.out;omega)) HWr.out.size (by rw[hM.size];exact Nat.le_refl _)⟩,HW3.out.trans (hM.low.mono (by omega))⟩
theorem a0s{ops:Array Oper}{o:Oper}{a:Act}{w:World}{K:Act->World->Prop}{Q:Exit->Act->World->Prop}{E:Prop}(hgd:o.guard=none)(s x:Operand)(t:TypeId)(ho:o.op=.call {callee:=.builtin .append,args:=#[s,x],argTypes:=#[t,t]})(base:Nat)(e:TypeId)(i:TypeInfo)(z:Value)(size bytes:Nat)(ht:Tryz.prog.underlying t=some (.slice e))(hi:Tryz.prog.info? e=some i)(hz:i.zero=some z)(hsize:i.size=size)(hby:i.bytes=bytes)(hzs:z.cells.size=size)(hsz:0<size)(v:Value)(n:Nat)(xs:List Value)(hs:a.eval s=v)(hown:w.ownsRow base e size v n xs)(ad:Addr)(m c:Nat)(news:List Value)(hx:a.eval x=.slice (some ad) m c)(hl:news.length=m*size)(hnews:∀j u,news[j]? = some u->w.cell? (ad.add j)=some u)(h1:∀u∈news,u.oneCell'=true)(h63:n+m<=maxLen)(hbytes:(n+m)*bytes<=140737488355328)(hbase:base<=w.heap.size)(h:∀v' w',w'.ownsRow base e size v' (n+m) (xs++news)->w.grownBy w' v.ownBlock->(v'.ownBlock=v.ownBlock\/v'.ownBlock=some w.heap.size)->K (a.put o.dst v') w') :
  if Region.wanted o (yielded ops a.tmps)=true then Oper.wp Tryz.prog o a w K Q else E:=by
 have hw:Region.wanted o (yielded ops a.tmps)=true:=by simp[Region.wanted,hgd]
 rw[if_pos hw]
 obtain⟨v',w',hr,h2,h3,h4,h5⟩:=run_append_own_at (P:=Tryz.prog) w base t o.type e i z size bytes ht hi hz hsize hby hzs hsz v n xs hown ad m c news hl hnews h1 h63 hbytes hbase
 unfold Oper.wp execOp
 simp only[ho,resolve,invoke,builtin,Sem.run_bind,Sem.run_pure,Result.andThen_ok,List.map_toArray,List.map_cons,List.map_nil,hs,hx,hr]
 exact h v' w' h2 h3 h5
theorem OwnX.same{B:Nat}{v:Value}{l:List X}{w w':World}(h:OwnX B v l w)(hb:∀b,B<=b->w'.heap[b]? = w.heap[b]?)(hs:w'.heap.size=w.heap.size):OwnX B v l w':=by
 obtain⟨css,h1,h2,h3,h4⟩:=h.row
 refine⟨css,h1,h2,⟨h3.1,?_⟩,fun k k1 k2 w2 hw2=>h4 k k1 k2 w2 fun b b1 b2 b3=>(hw2 b b1 (by omega) b3).trans (hb b b1)⟩
 rcases h3.2 with h0|⟨g,cap,cur,e,hg,hc,r⟩
 ·exact .inl h0
 ·exact .inr ⟨g,cap,cur,e,hg,(hb g hg).trans hc,r⟩
theorem b6j{L:List Col}{k:Nat}(h:k<L.length):nmX L (a1x k)=nmC L[k]:=by
 have h2:k<(L.map nmC).length:=by simpa using h
 have e:a5q (L.map nmC) (a1x k)=a0e id (L.map nmC)[k]:=b3L h2
 have e2:a0e (a5q (L.map nmC)) (a1x k)=a5q (L.map nmC) (a1x k):=by
  unfold a1x
  rw[a0e,if_pos rfl,a0d]
 unfold nmX
 rw[e2,e,List.getElem_map]
 unfold nmC
 rw[a0e,if_neg (by decide),a0d]
theorem b5H(L:List Col)(tn:S)(a a2 a3 a4:Option Addr)(m n2 m2 n3 m3 n4 m4:Nat)(k:Nat)(cs:List Value)(w:World)(hk:k<L.length)(hL:L.length<=1000000)(hl:CL w L (.slice a L.length m))(h:XR w (a1x k) cs):Calls Tryz.prog 138 #[.agg cs.toArray,.agg #[.string ⟨tn.toArray⟩,.slice a L.length m,.slice a2 n2 m2,.slice a3 n3 m3,.slice a4 n4 m4]] w (a2V w (nmX L (a1x k))):=by
 have HE:Hid (nmX L (a1x k)=.mk 3 0 0 0 [] L[k].nm []):=h_ (b6j hk)
 generalize nmX L (a1x k)=R at HE |-
 obtain⟨a5,m5,rfl,_⟩:=h.lits
 have k1:(k:Int)<(L.length:Int):=by omega
 have k0:(0:Int)<=(k:Int):=by omega
 obtain⟨g,o,eq,hx,hec⟩:=hl.at_ hk
 subst eq
 have HNM:=h_ (a4m hl _ (List.getElem_mem hx))
 go_enter Tryz.func138,Tryz.ntmps138
 go_upto_region 1 with(fail)
 refine a0X (K:=Code.wp _ _ _ _) fun w1 hB0 hB1 hB2 hw1 hsz=>?_
 have HB2:=h_ hB2
 have HW1:=h_ hw1
 have c0:=hec.at0 hw1 rfl
 have q1:=hB1.cell 1 rfl
 have z0:=hB0.cell 0 rfl
 have z1:=hB0.cell 1 rfl
 have f0:=hB2.free 0
 have f1:=hB2.free 1
 have f2:=hB2.free 2
 have f3:=hB2.free 3
 have f4:=hB2.free 4
 have f5:=hB2.free 5
 have f6:=hB2.free 6
 obtain⟨r0,r1,r2,r3,r4,r5,r6⟩:=hB2.c7
 clear hB0 hB1 hB2 hw1 hsz hec hl h
 generalize L[k].nm=nm at HE HNM c0
 go_wp2_with fail
 refine a0K (K:=fun w'=>bodyPost _ _ _ _ _ w') HB2.out fun w10 hM=>?_
 exact bodyPost_ret (results_cell_row Tryz.results138 _ _ (w.heap.size+1+1) _ _ (0,0) _ rfl hM.blk Tryz.underlying26 rfl (by kernel_rfl)) rfl ⟨by rw[HE.out];exact⟨none,0,rfl,XF.leaf _ _ _ _ _ _ _ _ _ (by decide) HNM.out⟩,HW1.out.trans (hM.low.mono (by omega))⟩
end Go.Proofs.YtlimlmjljjmcpaaGreatDoor.Px
