import Derived.Test.YtlimlmjljjmcpaaGreatDoorTmX
import Derived.Deep.DeepCutAuto
import Derived.Deep.CutBlock
import Derived.Test.YtlimlmjljjmcpaaGreatDoorTmRnd
import Derived.Test.YtlimlmjljjmcpaaGreatDoorBtA
set_option maxHeartbeats 16000000
set_option maxRecDepth 100000
namespace Go.Proofs.YtlimlmjljjmcpaaGreatDoor.Px
open Go Go.RowKit Go.Proofs.YtlimlmjljjmcpaaGreatDoor.Ps
set_option linter.unusedVariables false
set_option linter.unusedSimpArgs false
theorem b4A(n:Int)(op int vk vi:Int)(vs nm:S)(l:List X)(cs:List Value)(w:World)(hn:l.length<=1000000)(h:XR w (.mk op int vk vi vs nm l) cs)(IH:∀(k:Nat) (hk:k<l.length) (us:List Value) (w':World),Below w.heap.size w w'->XR w' l[k] us->Calls Tryz.prog 234 #[.agg us.toArray,.int .i64 n] w' (a2V w' (a0e (shX n) l[k]))) :
  Calls Tryz.prog 234 #[.agg cs.toArray,.int .i64 n] w (a2V w (a0e (shX n) (.mk op int vk vi vs nm l))):=by
 obtain⟨ix,hix,hx0,hx1,hx2⟩:=info_parts a2e
 obtain⟨i2,hi2⟩:∃z:Int,z=if op=2 then wrap64 (int+n) else int:=⟨_,rfl⟩
 have HR:Hid (a0e (shX n) (.mk op int vk vi vs nm l)=.mk op i2 vk vi vs nm (a0d (shX n) l)):=h_ (by by_cases hop:op=2;(rw[a0e,hi2,if_pos hop,if_pos hop];rfl);rw[a0e,hi2,if_neg hop,if_neg hop])
 generalize a0e (shX n) (.mk op int vk vi vs nm l)=R at HR |-
 obtain⟨a5,m5,rfl,hxl,h1,h2,_⟩:=h.lits
 have HV1:=h_ h1
 have HV2:=h_ h2
 have HL:=h_ hxl
 have HIH:=h_ IH
 clear h hxl IH h1 h2
 go_enter Tryz.func234,Tryz.ntmps234
 go_upto_region 1 with(fail)
 refine nB fun w1 hB0 hB2 hw1 hsz=>?_
 have HB0:=h_ hB0
 have HB2:=h_ hB2
 have HW1:=h_ hw1
 obtain⟨q0,q1,q2,q3,q4,q5,q6⟩:=hB0.c7
 clear hB0 hB2 hw1
 go_upto_region 2 with(fail)
 refine nA fun w2 hB3 hw2 hsz2=>?_
 rw[hsz] at hB3
 have hs2:w2.heap.size=w.heap.size+1+1+1:=by rw[hsz2,hsz]
 have HS2:=h_ hs2
 have HB3:=h_ hB3
 have HC0:=h_ (HB0.out.below hw2)
 have HC2:=h_ (HB2.out.below hw2)
 have HW2:=t_ HW1 hw2
 clear hB3 hw2 hsz2 hsz hs2 HB0 HB2 HW1 q0 q1 q2 q3 q4 q5 q6
 have p36:=HB3.out.cell 6 rfl
 have f36:=HB3.out.free 6
 go_upto_region 3 with(fail)
 refine a0p (K:=Code.wp _ _ _ _) HB3.out fun w3 hL3 hw3 hs3 ho3=>?_
 have HB4:=h_ hL3
 have HW3:=h_ hw3
 have HS3:Hid (w3.heap.size=w.heap.size+1+1+1):=h_ (by rw[hs3,HS2.out])
 clear p36 f36 hL3 hw3 hs3 ho3 HB3
 by_cases hop:op=2
 case' pos=>
  have d1:(op==2)=true:=by simpa using hop
  rw[if_pos hop] at hi2
  clear hop
  have p31:=HB4.out.cell 1 rfl
  have f31:=HB4.out.free 1
  have c01:=(Blk.low HC0.out HW3.out (by omega)).cell 1 rfl
  have c00:=(Blk.low HC0.out HW3.out (by omega)).cell 0 rfl
  go_upto_region 5 with(fail)
  refine a0p (K:=Code.wp _ _ _ _) HB4.out fun w4 hL4 hw4 hs4 ho4=>?_
  rw[<-hi2] at hL4
  have HB4:=h_ hL4
  have HW3:=h_ (HW3.out.trans hw4)
  have HS3:Hid (w4.heap.size=w.heap.size+1+1+1):=h_ (by rw[hs4,HS3.out])
  clear c00 c01 p31 f31 hL4 hw4 hs4 ho4
  go_upto_region 6 with(fail)
  clear d1 hi2
 case' neg=>
  have d1:(op==2)=false:=by simpa using hop
  rw[if_neg hop] at hi2
  rw[<-hi2] at HB4
  clear hop
  have c00:=(Blk.low HC0.out HW3.out (by omega)).cell 0 rfl
  go_upto_region 6 with(fail)
  clear d1 c00 hi2
 all_goals
  go_loopw [6] (fun i wr=>∃(k:Nat) (v:Value),k<=l.length/\i=.int .i64 (k:Int)/\Blk wr (w.heap.size+1+1) [.int .i64 op,.int .i64 i2,.int .i64 vk,.int .i64 vi,.string ⟨vs.toArray⟩,.string ⟨nm.toArray⟩,v] 26/\OwnX (w.heap.size+1+1+1) v (a0d (shX n) (l.take k)) wr/\Below (w.heap.size+1+1) w2 wr) (fun i _=>l.length - (intOf i).toNat)
  case atStart=>exact⟨0,_,Nat.zero_le _,rfl,HB4.out,OwnX.nil _ _,HW3.out⟩
  case round=>
   obtain⟨k,v,hk,rfl,hb3,hox,hb⟩:=hrel
   have HD0:=h_ (Blk.low HC0.out hb (by omega))
   have HD2:=h_ (Blk.low HC2.out hb (by omega))
   have HD3:=h_ hb3
   have HO:=h_ hox
   have HWr:=h_ (HW2.out.trans (hb.mono (by omega)))
   have HBB:=h_ hb
   have HSR:Hid (w.heap.size+1+1+1<=wr.heap.size):=h_ (by have:=HS2.out;have:=hb.size;omega)
   clear hb hb3 hox
   have p6:=HD0.out.cell 6 rfl
   by_cases hlt:k<l.length
   ·have k1:(k:Int)<(l.length:Int):=by omega
    have k0:(0:Int)<=(k:Int):=by omega
    obtain⟨g,o,us,eq,hec,hkx,hrx⟩:=HL.out.ec hlt
    subst eq
    have HIK:=h_ fun(w':World) (hw':Below wr.heap.size wr w')=>HIH.out k hkx us w' (HWr.out.trans (hw'.mono HWr.out.size)) (hrx.kept (HWr.out.trans (hw'.mono HWr.out.size)) (Nat.le_refl _))
    have HT:=h_ (a3I (shX n) hkx)
    have HLL:Hid ((a0d (shX n) (l.take k)).length+1<=1000000):=h_ (by rw[a1Y,List.length_take];omega)
    generalize hM1:a0d (shX n) (l.take (k+1))=M1 at HT
    have HM1:=h_ hM1
    clear hM1
    generalize a0d (shX n) (l.take k)=M at HT HLL HO
    generalize a0e (shX n) l[k]=y at HT HIK
    generalize l[k]=xk at hrx HIK
    obtain⟨eop,eint,evk,evi,evs,enm,el⟩:=xk
    obtain⟨ea,em,rfl,_⟩:=hrx.lits
    obtain⟨yop,yint,yvk,yvi,yvs,ynm,yl⟩:=y
    have HIQ:Hid (∀(w':World),Below wr.heap.size wr w'->Calls Tryz.prog 234 #[.agg #[.int .i64 eop,.int .i64 eint,.int .i64 evk,.int .i64 evi,.string ⟨evs.toArray⟩,.string ⟨enm.toArray⟩,.slice ea el.length em],.int .i64 n] w' (fun e w''=>∃ya ym,e=.returned (.agg #[.int .i64 yop,.int .i64 yint,.int .i64 yvk,.int .i64 yvi,.string ⟨yvs.toArray⟩,.string ⟨ynm.toArray⟩,.slice ya yl.length ym])/\XF w'.heap.size w''.heap.size w'' (.mk yop yint yvk yvi yvs ynm yl) [.int .i64 yop,.int .i64 yint,.int .i64 yvk,.int .i64 yvi,.string ⟨yvs.toArray⟩,.string ⟨ynm.toArray⟩,.slice ya yl.length ym]/\Below w'.heap.size w' w'')):=h_ fun w' hw'=>(HIK.out w' hw').mono fun e w'' hp=>by
     obtain⟨⟨ya,ym,h1,h2⟩,h3⟩:=hp
     exact⟨ya,ym,h1,h2,h3⟩
    obtain⟨e0,e1,e2,e3,e4,e5,e6⟩:=hec.c7 HWr.out
    have p36:=HD3.out.cell 6 rfl
    have f36:=HD3.out.free 6
    have lg:g<wr.heap.size:=Nat.lt_of_lt_of_le hec.1 HWr.out.size
    have l0:w.heap.size<wr.heap.size:=HD0.out.lt
    have l3:w.heap.size+1+1<wr.heap.size:=HD3.out.lt
    have hbd:Below wr.heap.size wr wr.drew:=Y_ (Below.refl _ _)
    clear hrx hec HIK
    go_upto_block 1 with(fail)
    go_cut [] (fun wx=>∃v5,Blk wx (w.heap.size+1+1) [.int .i64 op,.int .i64 i2,.int .i64 vk,.int .i64 vi,.string ⟨vs.toArray⟩,.string ⟨nm.toArray⟩,v5] 26/\OwnX (w.heap.size+1+1+1) v5 M1 wx/\Below (w.heap.size+1+1) w2 wx)
    case first=>
     go_upto_region 8 with(fail)
     go_region_law (first|(go_simp;go_at_call 234;refine(HIQ.out _ (by first|exact hbd|exact hbd.alloc (Nat.le_refl _) _)).mono ?_;rintro e w8 ⟨ya,ym,rfl,hxf,hw8⟩;have HXF:=h_ hxf;have HW8:Hid (Below wr.heap.size wr w8):=h_ (N_ hw8);have HO8:=h_ (HO.out.below HW8.out);have HE3:=h_ (HD3.out.below HW8.out);have HSN:=h_ (Nat.le_trans HSR.out HW8.out.size);have q36:=HE3.out.cell 6 rfl;have g36:=HE3.out.free 6;obtain⟨css,hc1,hc2,hc3,hc4⟩:=(HO8.out.below (d_ w8 (.cells ([.int .i64 yop,.int .i64 yint,.int .i64 yvk,.int .i64 yvi,.string ⟨yvs.toArray⟩,.string ⟨ynm.toArray⟩,.slice ya yl.length ym]:List Value).toArray 26))).row;have HCS:=h_ hc4;have l8:w.heap.size+1+1<w8.heap.size:=HE3.out.lt;clear hxf hw8 hc4)|(refine a0s rfl (.tmp 25) (.tmp 33) 24 rfl (w.heap.size+1+1+1) 26 ix _ 7 88 Tryz.underlying24 hix hx0 hx1 hx2 rfl (by omega) v M.length _ rfl hc3 ⟨w8.heap.size,0,none⟩ 1 1 [.int .i64 yop,.int .i64 yint,.int .i64 yvk,.int .i64 yvi,.string ⟨yvs.toArray⟩,.string ⟨ynm.toArray⟩,.slice ya yl.length ym] rfl rfl (fun j u hj=>by rw[Addr.add_lit];exact(Blk.new w8 [.int .i64 yop,.int .i64 yint,.int .i64 yvk,.int .i64 yvi,.string ⟨yvs.toArray⟩,.string ⟨ynm.toArray⟩,.slice ya yl.length ym] 26).cell _ (by simpa using hj)) (fun u hu=>by simp at hu;rcases hu with rfl|rfl|rfl|rfl|rfl|rfl|rfl<;>rfl) (by have:=HLL.out;unfold maxLen;omega) (by have:=HLL.out;omega) (Nat.le_trans HSN.out (by simp)) ?_;intro v5 w5 hrow hg5 hat5;have HB59:Hid (Below (w.heap.size+1+1+1) w8 w5):=h_ (((Below.refl _ w8).alloc HSN.out _).grown hg5 (Nat.le_trans HSN.out (by simp)) (fun g e=>(a3J HO8.out g e).1));have HN:=h_ (OwnX.snoc hc1 hc2 rfl HCS.out (HXF.out.below (d_ w8 _) (Nat.le_refl _)) HSR.out (by simp) (fun g e=>.inl (a3J HO.out g e).2) hrow hg5 (by simpa using hat5));obtain⟨⟨a9,c9,e9⟩,_⟩:=HN.out.done (by have:=HLL.out;rw[List.length_append,List.length_singleton];omega);rw[List.length_append,List.length_singleton] at e9;subst e9;have HK3:=h_ (Blk.low HE3.out HB59.out (by omega));have q5:=HK3.out.cell 6 rfl;have g5:=HK3.out.free 6;clear hrow hg5 hat5 hc1 hc2 hc3 q36 g36))
     all_goals
      refine a0p (K:=Exit.inBlock _ _ _ _) HK3.out fun w6 hL6 hw6 hs6 ho6=>?_
      have HL6:=h_ hL6
      have HO6:=h_ (HN.out.same (fun b hb=>ho6 b (by omega)) hs6)
      have HB6:=h_ (HBB.out.trans (((HW8.out.mono (by omega)).trans (HB59.out.mono (by omega))).trans hw6))
      have HF:Hid (OwnX (w.heap.size+1+1+1) _ M1 w6):=h_ (by rw[HT.out];exact HO6.out)
      clear hL6 hw6 hs6 ho6 HK3 HN HB59 q5 g5 l0 l3 l8 lg p6 e0 e1 e2 e3 e4 e5 e6 p36 f36 hbd HD0 HD2 HD3 HIQ
      go_wp2_with fail
      go_meet
      exact⟨_,HL6.out,HF.out,HB6.out⟩
    case rest=>
     obtain⟨v5,hL6,hF,hB6⟩:=hcut
     have HL6:=h_ hL6
     have HF:=h_ hF
     have HB6:=h_ hB6
     clear hL6 hF hB6 l0 l3 lg p6 e0 e1 e2 e3 e4 e5 e6 p36 f36 hbd HD0 HD2 HD3 HIQ
     go_wp2_with fail
     go_roundw
     case rel=>exact⟨k+1,_,by omega,by go_num,HL6.out,by rw[HM1.out];exact HF.out,HB6.out⟩
     case measure=>simp[intOf];omega
   ·obtain rfl:k=l.length:=by omega
    have d1:decide ((l.length:Int)<(l.length:Int))=false:=decide_eq_false (by omega)
    rw[List.take_length] at HO
    obtain⟨⟨av,cv,ev⟩,hdone⟩:=HO.out.done (by rw[a1Y];exact hn)
    have HDN:=h_ hdone
    clear hdone HO
    generalize hM:a0d (shX n) l=M at HDN ev HR
    clear hM
    subst ev
    obtain⟨z0,z1,z2,z3,z4,z5,z6⟩:=HD3.out.c7
    obtain⟨r0,r1,r2,r3,r4,r5,r6,f0,f1,f2,f3,f4,f5,f6⟩:=HD2.out.f7
    go_wp2_with fail
    refine a0K (K:=fun w'=>bodyPost _ _ _ _ _ w') HD2.out fun w10 hM=>?_
    exact bodyPost_ret (results_cell_row Tryz.results234 _ _ (w.heap.size+1) _ _ (0,0) _ rfl hM.blk Tryz.underlying26 rfl (by kernel_rfl)) rfl ⟨by rw[HR.out];exact⟨av,cv,rfl,fun w'' hw''=>a4P w'' op i2 vk vi vs nm M _ HV1.out HV2.out (HDN.out w'' fun b b1 b2=>(hw'' b (by omega) (by rw[hM.size];exact b2)).trans (hM.far b (by omega)))⟩,HWr.out.trans (hM.low.mono (by omega))⟩
theorem b8p{ks:List Int}:∀ {l:List X} {e:Int},tcs ks l=.inr e->e ≠ 0
 |[],e,h=>by rw[tcs] at h;cases h
 |x::l,e,h=>by
  rw[tcs] at h
  by_cases hx:(tc ks x).2=0
  ·rw[if_pos hx] at h
   cases hl:tcs ks l with
   |inl m=>rw[hl] at h;cases h
   |inr q=>rw[hl] at h;injection h with h;subst h;exact b8p hl
  ·rw[if_neg hx] at h;injection h with h;subst h;exact hx
mutual
theorem b6t{ks:List Int}:∀(x:X),(tc ks x).2=0->a2n ks.length x
 |.mk op int vk vi vs nm l,h=>by
  rw[tc] at h
  rw[a2n]
  by_cases h1:(arity op).1<0
  ·rw[if_pos h1] at h;cases h
  ·rw[if_neg h1] at h
   by_cases h2:a0C op int vk vi vs nm l.length=false
   ·rw[if_pos h2] at h;cases h
   ·rw[if_neg h2] at h
    have h2':a0C op int vk vi vs nm l.length=true:=by simpa using h2
    by_cases h3:op=2
    ·rw[if_pos h3] at h
     subst h3
     have hl:l.length=0:=cnt2 h2'
     have hl:l=[]:=List.eq_nil_of_length_eq_zero hl
     subst hl
     refine⟨fun _=>?_,by rw[a5f];trivial⟩
     by_cases h4:0<=int/\int<ks.length
     ·refine⟨h4,?_⟩
      unfold a0C x_ at h2'
      simp at h2'
      obtain⟨⟨_,h5⟩,h6⟩:=h2'
      simp_all
     ·rw[if_neg h4] at h;cases h
    ·rw[if_neg h3] at h
     refine⟨fun e=>absurd e h3,?_⟩
     cases hl:tcs ks l with
     |inl kl=>exact b3u l kl hl
     |inr e=>rw[hl] at h;exact absurd h (b8p hl)
theorem b3u{ks:List Int}:∀(l:List X) (kl:List Int),tcs ks l=.inl kl->a5f ks.length l
 |[],_,_=>by rw[a5f];trivial
 |x::l,kl,h=>by
  rw[tcs] at h
  rw[a5f]
  by_cases hx:(tc ks x).2=0
  ·rw[if_pos hx] at h
   cases hl:tcs ks l with
   |inl m=>exact⟨b6t x hx,b3u l m hl⟩
   |inr q=>rw[hl] at h;cases h
  ·rw[if_neg hx] at h;cases h
end
theorem b8A{ks:List Int}{x:X}(h:(chk ks x).2=0):a2n ks.length x:=by
 unfold chk at h
 by_cases hd:24<dep x
 ·rw[if_pos hd] at h;cases h
 ·rw[if_neg hd] at h;exact b6t x h
theorem a7N(L:List Col)(tn:S)(a a2 a3 a4:Option Addr)(m n2 m2 n3 m3 n4 m4:Nat)(hL:L.length<=1000000):∀(N:Nat) (x:X) (cs:List Value) (w:World),nodes x<=N->N<=1000000->a2n L.length x->CL w L (.slice a L.length m)->XR w x cs->Calls Tryz.prog 138 #[.agg cs.toArray,.agg #[.string ⟨tn.toArray⟩,.slice a L.length m,.slice a2 n2 m2,.slice a3 n3 m3,.slice a4 n4 m4]] w (a2V w (nmX L x))
 |0,x,_,_,h,_,_,_,_=>absurd (U_ x) (by omega)
 |N+1,.mk op int vk vi vs nm l,cs,w,hn,hN,hr,hl,h=>by
  rw[nodes] at hn
  rw[a2n] at hr
  by_cases h2:op=2
  ·obtain⟨⟨e1,e2⟩,rfl,rfl,rfl,rfl,rfl⟩:=hr.1 h2
   subst h2
   obtain⟨k,rfl⟩:=Int.eq_ofNat_of_zero_le e1
   exact b5H L tn a a2 a3 a4 m n2 m2 n3 m3 n4 m4 k cs w (by omega) hL hl h
  ·exact b3I L tn a a2 a3 a4 m n2 m2 n3 m3 n4 m4 (a5q (L.map nmC)) op int vk vi vs nm l cs w h2 (by have:=a0B l;omega) h fun k hk us w' hw' hx=>
    a7N L tn a a2 a3 a4 m n2 m2 n3 m3 n4 m4 hL N l[k] us w' (by have:=M_ (List.getElem_mem (l:=l) hk);omega) (by omega) (a7f hr.2 (List.getElem_mem hk)) (hl.kept hw' (Nat.le_refl _)) hx
theorem a7L(n:Int):∀(N:Nat) (x:X) (cs:List Value) (w:World),nodes x<=N->N<=1000000->XR w x cs->Calls Tryz.prog 234 #[.agg cs.toArray,.int .i64 n] w (a2V w (a0e (shX n) x))
 |0,x,_,_,h,_,_=>absurd (U_ x) (by omega)
 |N+1,.mk op int vk vi vs nm l,cs,w,hn,hN,h=>by
  rw[nodes] at hn
  have hl:=a0B l
  exact b4A n op int vk vi vs nm l cs w (by omega) h fun k hk us w' hw' hx=>a7L n N l[k] us w' (by have:=M_ (List.getElem_mem (l:=l) hk);omega) (by omega) hx
end Go.Proofs.YtlimlmjljjmcpaaGreatDoor.Px
