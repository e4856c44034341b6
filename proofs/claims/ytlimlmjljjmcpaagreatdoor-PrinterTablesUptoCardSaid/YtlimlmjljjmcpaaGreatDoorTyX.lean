import Derived.Test.YtlimlmjljjmcpaaGreatDoorTxX
import Derived.Test.YtlimlmjljjmcpaaGreatDoorPxE
set_option maxHeartbeats 16000000
set_option maxRecDepth 100000
namespace Go.Proofs.YtlimlmjljjmcpaaGreatDoor.Px
open Go Go.RowKit Go.Proofs.YtlimlmjljjmcpaaGreatDoor.Ps
set_option linter.unusedVariables false
set_option linter.unusedSimpArgs false
theorem b6J(sep:S):∀(M:List S),Lib.joinTail sep M++sep=sep++(M.map fun x=>x++sep).flatten
 |[]=>by simp[Lib.joinTail]
 |x::r=>by
  have h:=b6J sep r
  have e:Lib.joinTail sep (x::r)=sep++x++Lib.joinTail sep r:=by simp[Lib.joinTail]
  rw[e,List.append_assoc,h]
  simp
theorem b8a{α:Type}(f:α->S)(sep:S){l:List α}(h:1<=l.length):(l.map fun c=>f c++sep).flatten=Lib.join (l.map f) sep++sep:=by
 cases l with
 |nil=>simp at h
 |cons x r=>
  rw[List.map_cons,List.map_cons,Lib.join_cons,List.append_assoc,b6J,List.flatten_cons,List.map_map]
  simp[Function.comp_def]
theorem b8k{α:Type}(f:α->S)(sep:S){l:List α}{k:Nat}(h:k<l.length):Lib.join ((l.take (k+1)).map f) sep=if k=0 then f l[k] else Lib.join ((l.take k).map f) sep++sep++f l[k]:=by
 rw[map_take f h]
 by_cases h0:k=0
 ·subst h0
  rw[if_pos rfl]
  exact join_one _ _
 ·rw[if_neg h0,a6T]
  intro e
  have h3:=congrArg List.length e
  rw[List.length_map,List.length_take] at h3
  have h4:([]:List S).length=0:=rfl
  omega
theorem b1S(c:Col)(w:World)(h:a1C c):Calls Tryz.prog 277 #[.agg #[.string ⟨c.nm.toArray⟩,.int .i64 c.kind,.bool c.nul]] w (Ret w (.string ⟨(a0w c).toArray⟩)):=by
 have hnm:=a0a h.1
 have hkk:c.kind=1\/c.kind=2\/c.kind=3:=by have:=h.2;omega
 have HR:Hid (a0w c=c.nm++[32]++a2g c.kind++(if c.nul then[32,78,85,76,76] else[])):=h_ rfl
 generalize a0w c=R at HR |-
 obtain⟨nm,kind,nul⟩:=c
 dsimp only at HR hnm hkk |-
 have hsn:=mkS nm
 have y1:¬maxLen<nm.length+4:=by unfold maxLen;omega
 have y2:¬maxLen<nm.length+4+5:=by unfold maxLen;omega
 have y3:¬maxLen<nm.length+5:=by unfold maxLen;omega
 have y4:¬maxLen<nm.length+5+5:=by unfold maxLen;omega
 clear h
 rcases hkk with rfl|rfl|rfl
 ·go_enter Tryz.func277,Tryz.ntmps277
  go_upto_region 2 with(fail)
  refine nB fun w1 hB hA hw1 hz1=>?_
  have HB:=h_ hB
  have HA:=h_ hA
  have HW:=h_ hw1
  clear hB hA hw1 hz1
  refine Gr.f_ 7 (by kernel_rfl) (by kernel_rfl) (fun w'=>Below w1.heap.size w1 w') ⟨rfl,rfl,rfl,Nat.le_refl _,fun _ _=>rfl⟩ ?_
  simp only[List.take_succ_cons,List.take_zero,List.drop_succ_cons,List.drop_zero]
  iterate 7
   first
   |apply Gr.sn;focus(go_simp;intro w' hw';go_simp;rw[Gr.a_];done)
   |apply Gr.sn;focus(go_simp;intro w' hw';have p0:=(HB.out.below hw').cell 0 rfl;go_simp;rw[Gr.a_];done)
   |apply Gr.sn;focus(go_simp;intro w' hw';have p1:=(HB.out.below hw').cell 1 rfl;go_simp;rw[Gr.a_];done)
   |apply Gr.sn;focus(go_simp;intro w' hw';have q1:=(HA.out.below hw').cell 1 rfl;go_simp;rw[Gr.a_];done)
   intro K hK;go_simp;refine hK _ ?_;clear hK K
  refine Gr.o_ fun w2 hw2=>?_
  have HW2:=t_ HW hw2
  have HB2:=h_ (HB.out.below hw2)
  have p2:=HB2.out.cell 2 rfl
  clear hw2
  cases nul with
  |false=>
   go_wp2_with fail
   go_ret
   rw[HR.out]
   exact Ret.str (by simp[ByteArray.data_append,a2g]) HW2.out
  |true=>
   go_wp2_with fail
   go_ret
   rw[HR.out]
   exact Ret.str (by simp[ByteArray.data_append,a2g]) HW2.out
 ·go_enter Tryz.func277,Tryz.ntmps277
  go_upto_region 2 with(fail)
  refine nB fun w1 hB hA hw1 hz1=>?_
  have HB:=h_ hB
  have HA:=h_ hA
  have HW:=h_ hw1
  clear hB hA hw1 hz1
  refine Gr.f_ 7 (by kernel_rfl) (by kernel_rfl) (fun w'=>Below w1.heap.size w1 w') ⟨rfl,rfl,rfl,Nat.le_refl _,fun _ _=>rfl⟩ ?_
  simp only[List.take_succ_cons,List.take_zero,List.drop_succ_cons,List.drop_zero]
  iterate 7
   first
   |apply Gr.sn;focus(go_simp;intro w' hw';go_simp;rw[Gr.a_];done)
   |apply Gr.sn;focus(go_simp;intro w' hw';have p0:=(HB.out.below hw').cell 0 rfl;go_simp;rw[Gr.a_];done)
   |apply Gr.sn;focus(go_simp;intro w' hw';have p1:=(HB.out.below hw').cell 1 rfl;go_simp;rw[Gr.a_];done)
   |apply Gr.sn;focus(go_simp;intro w' hw';have q2:=(HA.out.below hw').cell 2 rfl;go_simp;rw[Gr.a_];done)
   intro K hK;go_simp;refine hK _ ?_;clear hK K
  refine Gr.o_ fun w2 hw2=>?_
  have HW2:=t_ HW hw2
  have HB2:=h_ (HB.out.below hw2)
  have p2:=HB2.out.cell 2 rfl
  clear hw2
  cases nul with
  |false=>
   go_wp2_with fail
   go_ret
   rw[HR.out]
   exact Ret.str (by simp[ByteArray.data_append,a2g]) HW2.out
  |true=>
   go_wp2_with fail
   go_ret
   rw[HR.out]
   exact Ret.str (by simp[ByteArray.data_append,a2g]) HW2.out
 ·go_enter Tryz.func277,Tryz.ntmps277
  go_upto_region 2 with(fail)
  refine nB fun w1 hB hA hw1 hz1=>?_
  have HB:=h_ hB
  have HA:=h_ hA
  have HW:=h_ hw1
  clear hB hA hw1 hz1
  refine Gr.f_ 7 (by kernel_rfl) (by kernel_rfl) (fun w'=>Below w1.heap.size w1 w') ⟨rfl,rfl,rfl,Nat.le_refl _,fun _ _=>rfl⟩ ?_
  simp only[List.take_succ_cons,List.take_zero,List.drop_succ_cons,List.drop_zero]
  iterate 7
   first
   |apply Gr.sn;focus(go_simp;intro w' hw';go_simp;rw[Gr.a_];done)
   |apply Gr.sn;focus(go_simp;intro w' hw';have p0:=(HB.out.below hw').cell 0 rfl;go_simp;rw[Gr.a_];done)
   |apply Gr.sn;focus(go_simp;intro w' hw';have p1:=(HB.out.below hw').cell 1 rfl;go_simp;rw[Gr.a_];done)
   |apply Gr.sn;focus(go_simp;intro w' hw';have q3:=(HA.out.below hw').cell 3 rfl;go_simp;rw[Gr.a_];done)
   intro K hK;go_simp;refine hK _ ?_;clear hK K
  refine Gr.o_ fun w2 hw2=>?_
  have HW2:=t_ HW hw2
  have HB2:=h_ (HB.out.below hw2)
  have p2:=HB2.out.cell 2 rfl
  clear hw2
  cases nul with
  |false=>
   go_wp2_with fail
   go_ret
   rw[HR.out]
   exact Ret.str (by simp[ByteArray.data_append,a2g]) HW2.out
  |true=>
   go_wp2_with fail
   go_ret
   rw[HR.out]
   exact Ret.str (by simp[ByteArray.data_append,a2g]) HW2.out
theorem b3S(L:List Col)(K:List Int)(tn:S)(a a2 a3 a4 ak:Option Addr)(m n2 m2 n3 m3 n4 m4 mk:Nat)(w:World)(hK:Cis L.length K)(hC:∀c∈L,a1C c)(h1:CL w L (.slice a L.length m))(hl:IL w K (.slice ak K.length mk)):Calls Tryz.prog 278 #[.agg #[.string ⟨tn.toArray⟩,.slice a L.length m,.slice a2 n2 m2,.slice a3 n3 m3,.slice a4 n4 m4],.slice ak K.length mk] w (Ret w (.string ⟨(namesT L K).toArray⟩)):=by
 have HR:Hid (namesT L K=[40]++Lib.join (K.map (a1k L)) [44,32]++[41]):=h_ rfl
 have HJL:Hid (∀k,(Lib.join ((K.take k).map (a1k L)) [44,32]).length<=400):=h_ fun k=>by
  have:=a8E (B:=24) (sep:=[44,32]) (M:=(K.take k).map (a1k L)) fun s hs=>by
   obtain⟨i,hi,rfl⟩:=List.mem_map.1 hs
   exact(a0a (a8m hC (hK.2.2 i (List.mem_of_mem_take hi)))).1
  rw[List.length_map] at this
  have h2:(K.take k).length*(24+[44,32].length)<=12*26:=Nat.mul_le_mul_right _ (by rw[List.length_take];have:=hK.2.1;omega)
  omega
 have HNL:Hid (∀i∈K,(a1k L i).length<=24):=h_ fun i hi=>(a0a (a8m hC (hK.2.2 i hi))).1
 have HL:=h_ h1
 have HKL:=h_ hl
 have HKX:=h_ hK.2.2
 have hk12:=hK.2.1
 generalize namesT L K=R at HR |-
 clear hK hC h1 hl
 go_enter Tryz.func278,Tryz.ntmps278
 go_upto_region 1 with(fail)
 refine nA fun w1 hB hw1 hz1=>?_
 have HB:=h_ hB
 have HW:=h_ hw1
 clear hB hw1 hz1
 go_wp2_with fail
 go_loopw [5,6] (fun s i wr=>∃k:Nat,k<=K.length/\s=.string ⟨([40]++Lib.join ((K.take k).map (a1k L)) [44,32]).toArray⟩/\i=.int .i64 (k:Int)/\Below w1.heap.size w1 wr) (fun _ i _=>K.length - (intOf i).toNat)
 case atStart=>exact⟨0,Nat.zero_le _,by simp[Lib.join_nil],rfl,Below.refl _ _⟩
 case round=>
  obtain⟨k,hk,rfl,rfl,hb⟩:=hrel
  have HBr:=h_ (HB.out.below hb)
  have HBB:=h_ hb
  have HWr:=t_ HW hb
  clear hb
  by_cases hlt:k<K.length
  ·have k1:(k:Int)<(K.length:Int):=by omega
   have k0:(0:Int)<=(k:Int):=by omega
   obtain⟨gk,ok,eq,hx,hec⟩:=HKL.out.at_ hlt
   subst eq
   have hex:=a3P.1 (HKX.out _ (List.getElem_mem hx))
   obtain⟨gl,ol,eq2,hx2,hc⟩:=HL.out.at_ (k:=K[k].toNat) (by omega)
   subst eq2
   have HNM:Hid (a1k L K[k]=L[K[k].toNat].nm):=h_ (b1F hx2)
   have hnl:=HNL.out _ (List.getElem_mem hx)
   have HJ:=h_ (b8k (a1k L) [44,32] hx)
   have hjl:=HJL.out k
   rw[HNM.out] at hnl HJ
   have HEC:Hid (EC w gk (ok+k) [.int .i64 K[k]]):=h_ (by simpa using hec)
   have HCC:Hid (∀w',Below w.heap.size w w'->w'.cell? ⟨gl,ol+K[k].toNat*3,none⟩=some (.string ⟨L[K[k].toNat].nm.toArray⟩)):=h_ fun w' hw'=>hc.at0 hw' rfl
   have lk:gk<wr.heap.size:=Nat.lt_of_lt_of_le hec.1 HWr.out.size
   have ll:gl<wr.heap.size:=Nat.lt_of_lt_of_le hc.1 HWr.out.size
   have lw:w.heap.size<wr.heap.size:=HBr.out.lt
   clear hec hc HNM
   generalize hM1:Lib.join ((K.take (k+1)).map (a1k L)) [44,32]=M1 at HJ
   have HM1:=h_ hM1
   clear hM1
   generalize hMe:Lib.join ((K.take k).map (a1k L)) [44,32]=M at HJ hjl |-
   have HMe:=h_ hMe
   clear hMe
   generalize L[K[k].toNat].nm=nm at HCC HJ hnl
   generalize K[k]=kv at HEC HCC hex hx2
   obtain⟨q0,q1⟩:=hex
   clear hx2
   have hsn:=mkS nm
   by_cases h0:k=0
   ·have HJ0:Hid (M1=nm/\M=[]):=h_ ⟨by rw[HJ.out,if_pos h0],by rw[<-HMe.out,h0];simp[Lib.join_nil]⟩
    obtain⟨S0,hS0⟩:∃S0,S0=[40]++M:=⟨_,rfl⟩
    have HS0:Hid (S0++nm=[40]++M1):=h_ (by rw[hS0,HJ0.out.1,HJ0.out.2];simp)
    rw[<-hS0]
    have hl0:S0.length<=500:=by rw[hS0,List.length_append];simp;omega
    have hss:=mkS S0
    have y1:¬maxLen<S0.length+nm.length:=by unfold maxLen;omega
    have d1:decide ((0:Int)<(k:Int))=false:=decide_eq_false (by omega)
    have d2:¬(0:Int)<(k:Int):=by omega
    clear hS0 HJ HJ0 h0
    go_upto_region 7 with(fail)
    refine Gr.f_ 10 (by kernel_rfl) (by kernel_rfl) (fun w'=>Below wr.heap.size wr w') ⟨rfl,rfl,rfl,Nat.le_refl _,fun _ _=>rfl⟩ ?_
    simp only[List.take_succ_cons,List.take_zero,List.drop_succ_cons,List.drop_zero]
    iterate 10
     first
     |apply Gr.sn;focus(go_simp;intro w' hw';go_simp;rw[Gr.a_];done)
     |apply Gr.sn;focus(go_simp;intro w' hw';have p1:=(HBr.out.below hw').cell 1 rfl;go_simp;rw[Gr.a_];done)
     |apply Gr.sn;focus(go_simp;intro w' hw';have c0:=HCC.out w' (HWr.out.trans (hw'.mono HWr.out.size));go_simp;rw[Gr.a_];done)
     |apply Gr.sn;focus(go_simp;intro w' hw';have e0:=HEC.out.at0 (HWr.out.trans (hw'.mono HWr.out.size)) rfl;go_simp;rw[Gr.a_];done)
     intro K hK;go_simp;refine hK _ ?_;clear hK K
    refine Gr.o_ fun w4 hw4=>?_
    have HB4:=t_ HBB hw4
    clear hw4 HEC HCC
    go_wp2_with fail
    go_roundw
    case rel=>exact⟨k+1,by omega,by rw[HM1.out,<-HS0.out];exact congrArg Value.string (str_eq (by simp[ByteArray.data_append])),by go_num,HB4.out⟩
    case measure=>simp[intOf];omega
   ·have HJ0:Hid (M1=M++[44,32]++nm):=h_ (by rw[HJ.out,if_neg h0])
    obtain⟨S1,hS1⟩:∃S1,S1=[40]++M:=⟨_,rfl⟩
    obtain⟨S0,hS0⟩:∃S0,S0=S1++[44,32]:=⟨_,rfl⟩
    have HS0:Hid (S0++nm=[40]++M1):=h_ (by rw[hS0,hS1,HJ0.out];simp)
    rw[<-hS1]
    have hl1:S1.length<=500:=by rw[hS1,List.length_append];simp;omega
    have hl0:S0.length=S1.length+2:=by rw[hS0,List.length_append];rfl
    have hss:=mkS S0
    have hs1:=mkS S1
    have y1:¬maxLen<S0.length+nm.length:=by unfold maxLen;omega
    have y0:¬maxLen<S1.length+2:=by unfold maxLen;omega
    have d1:decide ((0:Int)<(k:Int))=true:=decide_eq_true (by omega)
    have d2:(0:Int)<(k:Int):=by omega
    clear h0
    have HC2:Hid ((⟨S1.toArray⟩:ByteArray)++⟨#[44,32]⟩=⟨S0.toArray⟩):=h_ (str_eq (by rw[hS0];simp[ByteArray.data_append]))
    clear hS0 hS1 HJ HJ0
    go_upto_region 7 with(fail)
    rw[HC2.out]
    refine Gr.f_ 10 (by kernel_rfl) (by kernel_rfl) (fun w'=>Below wr.heap.size wr w') ⟨rfl,rfl,rfl,Nat.le_refl _,fun _ _=>rfl⟩ ?_
    simp only[List.take_succ_cons,List.take_zero,List.drop_succ_cons,List.drop_zero]
    iterate 10
     first
     |apply Gr.sn;focus(go_simp;intro w' hw';go_simp;rw[Gr.a_];done)
     |apply Gr.sn;focus(go_simp;intro w' hw';have p1:=(HBr.out.below hw').cell 1 rfl;go_simp;rw[Gr.a_];done)
     |apply Gr.sn;focus(go_simp;intro w' hw';have c0:=HCC.out w' (HWr.out.trans (hw'.mono HWr.out.size));go_simp;rw[Gr.a_];done)
     |apply Gr.sn;focus(go_simp;intro w' hw';have e0:=HEC.out.at0 (HWr.out.trans (hw'.mono HWr.out.size)) rfl;go_simp;rw[Gr.a_];done)
     intro K hK;go_simp;refine hK _ ?_;clear hK K
    refine Gr.o_ fun w4 hw4=>?_
    have HB4:=t_ HBB hw4
    clear hw4 HEC HCC
    go_wp2_with fail
    go_roundw
    case rel=>exact⟨k+1,by omega,by rw[HM1.out,<-HS0.out];exact congrArg Value.string (str_eq (by simp[ByteArray.data_append])),by go_num,HB4.out⟩
    case measure=>simp[intOf];omega
  ·obtain rfl:k=K.length:=by omega
   have d1:decide ((K.length:Int)<(K.length:Int))=false:=decide_eq_false (by omega)
   have hjl:=HJL.out K.length
   have HTL:Hid ([40]++Lib.join ((K.take K.length).map (a1k L)) [44,32]++[41]=R):=h_ (by rw[List.take_length,HR.out])
   generalize Lib.join ((K.take K.length).map (a1k L)) [44,32]=M at HTL hjl |-
   obtain⟨S0,hS0⟩:∃S0,S0=[40]++M:=⟨_,rfl⟩
   have hl0:S0.length<=500:=by rw[hS0,List.length_append];simp;omega
   rw[<-hS0] at HTL |-
   have hss:=mkS S0
   have y1:¬maxLen<S0.length+1:=by unfold maxLen;omega
   clear hS0
   go_wp2_with fail
   go_ret
   rw[<-HTL.out]
   exact Ret.str (by simp[ByteArray.data_append]) HWr.out
theorem b1P(L:List Col)(K:List Int)(Fs:List Fkey)(Xs:List X)(tn:S)(a a2 a3 ax:Option Addr)(m m2 m3 mx:Nat)(w:World)(hE:Env w)(hN:nameB tn=true)(hC:a0f L)(hK:a2F L K)(hF:a0T L.length Fs)(hX:∀x∈Xs,nodes x<=2000/\pOk x=true)(hXl:Xs.length<=4)(h1:CL w L (.slice a L.length m))(h2:IL w K (.slice a2 K.length m2))(h3:FL w Fs (.slice a3 Fs.length m3))(h4:XL w Xs (.slice ax Xs.length mx)):Calls Tryz.prog 230 #[.agg #[.string ⟨tn.toArray⟩,.slice a L.length m,.slice a2 K.length m2,.slice a3 Fs.length m3,.slice none 0 0],.slice ax Xs.length mx] w (Ret w (.string ⟨(a0n tn L K Fs Xs).toArray⟩)):=by
 have H1:=h_ h1
 have H2:=h_ h2
 have H3:=h_ h3
 have H4:=h_ h4
 have HCO:=h_ hC
 have HLN:=hC.1
 have hFN:=hF.1
 have HKC:=h_ (a5J hC.1.2 hK)
 have HFO:=h_ hF
 have HXX:=h_ hX
 have hnt:=a0a hN
 have hhd:=a7s hN hC.2.1 hC.1.2 HKC.out
 have hnk:=a1u hC.2.1 HKC.out
 have HFT:Hid (∀j,(((Fs.take j).map (a0V L)).flatten).length<=2000):=h_ fun j=>by
  have:=a2i (B:=500) (M:=(Fs.take j).map (a0V L)) fun s hs=>by
   obtain⟨F,hF2,rfl⟩:=List.mem_map.1 hs
   exact a8I hC.2.1 hC.1.2 (hF.2 F (List.mem_of_mem_take hF2))
  rw[List.length_map] at this
  have h5:(Fs.take j).length*500<=4*500:=Nat.mul_le_mul_right _ (by rw[List.length_take];omega)
  omega
 have HXT:Hid (∀j,(((Xs.take j).map a0F).flatten).length<=5000000):=h_ fun j=>by
  have:=a2i (B:=1200100) (M:=(Xs.take j).map a0F) fun s hs=>by
   obtain⟨x,hx,rfl⟩:=List.mem_map.1 hs
   have:=hX x (List.mem_of_mem_take hx)
   exact a8B this.1 this.2
  rw[List.length_map] at this
  have h5:(Xs.take j).length*1200100<=4*1200100:=Nat.mul_le_mul_right _ (by rw[List.length_take];omega)
  omega
 have HCR:Hid (a0n tn L K Fs Xs=a6e tn L K++(Fs.map (a0V L)).flatten++(Xs.map a0F).flatten++[41]):=h_ rfl
 generalize a0n tn L K Fs Xs=R at HCR |-
 have HHD:Hid (a6e tn L K=[67,82,69,65,84,69,32,84,65,66,76,69,32]++tn++[32,40]++Lib.join (L.map a0w) [44,32]++[44,32,80,82,73,77,65,82,89,32,75,69,89,32]++namesT L K):=h_ rfl
 have HNK:Hid (∀(w':World) (J:List Int) (aj:Option Addr) (mj:Nat),Cis L.length J->IL w J (.slice aj J.length mj)->Below w.heap.size w w'->Calls Tryz.prog 278 #[.agg #[.string ⟨tn.toArray⟩,.slice a L.length m,.slice a2 K.length m2,.slice a3 Fs.length m3,.slice none 0 0],.slice aj J.length mj] w' (Ret w' (.string ⟨(namesT L J).toArray⟩))):=h_ fun w' J aj mj hJ hj hw'=>b3S L J tn a a2 a3 none aj m K.length m2 Fs.length m3 0 0 mj w' hJ HCO.out.2.1 (H1.out.kept hw' (Nat.le_refl _)) (hj.kept hw' (Nat.le_refl _))
 have HNT:=h_ fun(w':World) (hw':Below w.heap.size w w')=>HNK.out w' K a2 m2 HKC.out h2 hw'
 have HCL:Hid (∀(w':World) (c:Col),c∈L->Calls Tryz.prog 277 #[.agg #[.string ⟨c.nm.toArray⟩,.int .i64 c.kind,.bool c.nul]] w' (Ret w' (.string ⟨(a0w c).toArray⟩))):=h_ fun w' c hc=>b1S c w' (HCO.out.2.1 c hc)
 have HEX:Hid (∀(w':World) (x:X) (cs:List Value),x∈Xs->XR w x cs->Below w.heap.size w w'->Calls Tryz.prog 31 #[.agg cs.toArray] w' (Ret w' (.string ⟨(txt x).toArray⟩))):=h_ fun w' x cs hx hr hw'=>a9F 1000000 x cs w' (Nat.le_trans (HXX.out x hx).1 (by decide)) (Nat.le_refl _) (HXX.out x hx).2 (hE.below hw') (hr.kept hw' (Nat.le_refl _))
 have HLT:Hid (∀k,(((L.take k).map fun c=>a0w c++[44,32]).flatten).length<=600):=h_ fun k=>by
  have:=a2i (B:=42) (M:=(L.take k).map fun c=>a0w c++[44,32]) fun s hs=>by
   obtain⟨c,hc,rfl⟩:=List.mem_map.1 hs
   have:=a5Z (hC.2.1 c (List.mem_of_mem_take hc))
   rw[List.length_append]
   simp
   omega
  rw[List.length_map] at this
  have h5:(L.take k).length*42<=12*42:=Nat.mul_le_mul_right _ (by rw[List.length_take];omega)
  omega
 have HLJ:=h_ (b8a a0w [44,32] hC.1.1)
 have HCLN:Hid (∀c∈L,(a0w c).length<=40):=h_ fun c hc=>a5Z (hC.2.1 c hc)
 clear h1 h2 h3 h4 hC hK hF hX hE hN
 generalize a6e tn L K=HD2 at HCR HHD hhd
 have hsn:=mkS (namesT L K)
 generalize namesT L K=NT at HNT HHD hnk hsn
 have hst:=mkS tn
 have y1:¬maxLen<13+tn.length:=by unfold maxLen;omega
 have y2:¬maxLen<13+tn.length+2:=by unfold maxLen;omega
 go_enter Tryz.func230,Tryz.ntmps230
 go_upto_region 1 with(fail)
 refine nA fun w1 hB hw1 hz1=>?_
 have HB:=h_ hB
 have HW:=h_ hw1
 have p0:=hB.cell 0 rfl
 have lp:=hB.lt
 clear hB hw1 hz1
 go_upto_region 3 with(fail)
 clear p0 lp y1 y2
 have HS0:Hid ((⟨#[67,82,69,65,84,69,32,84,65,66,76,69,32]⟩:ByteArray)++⟨tn.toArray⟩++⟨#[32,40]⟩=⟨([67,82,69,65,84,69,32,84,65,66,76,69,32]++tn++[32,40]).toArray⟩):=h_ (str_eq (by simp[ByteArray.data_append]))
 go_loopw [5,6] (fun s i wr=>∃k:Nat,k<=L.length/\s=.string ⟨([67,82,69,65,84,69,32,84,65,66,76,69,32]++tn++[32,40]++((L.take k).map fun c=>a0w c++[44,32]).flatten).toArray⟩/\i=.int .i64 (k:Int)/\Below w1.heap.size w1 wr) (fun _ i _=>L.length - (intOf i).toNat)
 case atStart=>exact⟨0,Nat.zero_le _,by rw[HS0.out];simp,rfl,Below.refl _ _⟩
 case round=>
  obtain⟨k,hk,rfl,rfl,hb⟩:=hrel
  have HBB:=h_ hb
  have HWr:=t_ HW hb
  have HBr:=h_ (HB.out.below hb)
  have p1:=HBr.out.cell 1 rfl
  have lp:w.heap.size<wr.heap.size:=HBr.out.lt
  clear hb
  by_cases hlt:k<L.length
  ·have k1:(k:Int)<(L.length:Int):=by omega
   have k0:(0:Int)<=(k:Int):=by omega
   obtain⟨g,o,eq,hx,hec⟩:=H1.out.at_ hlt
   subst eq
   have HC1:=h_ fun(w':World)=>HCL.out w' L[k] (List.getElem_mem hx)
   have HT:=h_ (a3o (fun c=>a0w c++[44,32]) hx)
   have hcl:=HCLN.out _ (List.getElem_mem hx)
   have hb1:=HLT.out k
   generalize hM1:((L.take (k+1)).map fun c=>a0w c++[44,32]).flatten=M1 at HT
   have HM1:=h_ hM1
   clear hM1
   have hsc:=mkS (a0w L[k])
   have HT:Hid (M1=((L.take k).map fun c=>a0w c++[44,32]).flatten++(a0w L[k]++[44,32])):=HT
   generalize a0w L[k]=ct at HC1 HT hcl hsc
   have hlc:([67,82,69,65,84,69,32,84,65,66,76,69,32]++tn++[32,40]++((L.take k).map fun c=>a0w c++[44,32]).flatten).length<=1000:=by simp only[List.length_append,List.length_cons,List.length_nil];omega
   have HAC:Hid ([67,82,69,65,84,69,32,84,65,66,76,69,32]++tn++[32,40]++((L.take k).map fun c=>a0w c++[44,32]).flatten++(ct++[44,32])=[67,82,69,65,84,69,32,84,65,66,76,69,32]++tn++[32,40]++M1):=h_ (by rw[HT.out];simp only[List.append_assoc])
   have hsa:=mkS ([67,82,69,65,84,69,32,84,65,66,76,69,32]++tn++[32,40]++((L.take k).map fun c=>a0w c++[44,32]).flatten)
   generalize[67,82,69,65,84,69,32,84,65,66,76,69,32]++tn++[32,40]++((L.take k).map fun c=>a0w c++[44,32]).flatten=AC at hlc HAC hsa |-
   have y1:¬maxLen<AC.length+ct.length:=by unfold maxLen;omega
   have y2:¬maxLen<AC.length+ct.length+2:=by unfold maxLen;omega
   generalize L[k]=c at hec HC1
   obtain⟨cnm,ckd,cnl⟩:=c
   dsimp only at hec HC1
   have c0:=hec.at0 HWr.out rfl
   have c1:=hec.at_ HWr.out (j:=1) rfl
   have c2:=hec.at_ HWr.out (j:=2) rfl
   have lg:g<wr.heap.size:=Nat.lt_of_lt_of_le hec.1 HWr.out.size
   clear hec HT
   go_wp2_with fail
   refine(HC1.out _).mono ?_
   rintro e w4 ⟨rfl,hw4⟩
   have HB4:=t_ HBB hw4
   clear hw4 c0 c1 c2 HC1 p1
   go_wp2_with fail
   go_roundw
   case rel=>exact⟨k+1,by omega,by rw[HM1.out,<-HAC.out];exact congrArg Value.string (str_eq (by simp[ByteArray.data_append])),by go_num,HB4.out⟩
   case measure=>simp[intOf];omega
  ·obtain rfl:k=L.length:=by omega
   have d1:decide ((L.length:Int)<(L.length:Int))=false:=decide_eq_false (by omega)
   have hb1:=HLT.out L.length
   have HTA:Hid ([67,82,69,65,84,69,32,84,65,66,76,69,32]++tn++[32,40]++((L.take L.length).map fun c=>a0w c++[44,32]).flatten++[80,82,73,77,65,82,89,32,75,69,89,32]++NT=HD2):=h_ (by rw[List.take_length,HLJ.out,HHD.out];simp)
   have hlc:([67,82,69,65,84,69,32,84,65,66,76,69,32]++tn++[32,40]++((L.take L.length).map fun c=>a0w c++[44,32]).flatten).length<=1000:=by simp only[List.length_append,List.length_cons,List.length_nil];omega
   have hsa:=mkS ([67,82,69,65,84,69,32,84,65,66,76,69,32]++tn++[32,40]++((L.take L.length).map fun c=>a0w c++[44,32]).flatten)
   generalize[67,82,69,65,84,69,32,84,65,66,76,69,32]++tn++[32,40]++((L.take L.length).map fun c=>a0w c++[44,32]).flatten=AC at hlc HTA hsa |-
   have y1:¬maxLen<AC.length+12:=by unfold maxLen;omega
   have y2:¬maxLen<AC.length+12+NT.length:=by unfold maxLen;omega
   obtain⟨q0,q1,q2,q3,q4⟩:=HBr.out.c5
   go_wp2_with fail
   refine(HNT.out wr HWr.out).mono ?_
   rintro e w3 ⟨rfl,hw3⟩
   have HW3:=t_ HWr hw3
   have HB3:=h_ (HBr.out.below hw3)
   clear hw3 q0 q1 q2 q3 q4 p1 lp HNT
   go_upto_region 8 with(fail)
   have HHX:Hid ((⟨AC.toArray⟩:ByteArray)++⟨#[80,82,73,77,65,82,89,32,75,69,89,32]⟩++⟨NT.toArray⟩=⟨HD2.toArray⟩):=h_ (str_eq (by rw[<-HTA.out];simp[ByteArray.data_append]))
   go_loopw [5,7] (fun s i wr=>∃j:Nat,j<=Fs.length/\s=.string ⟨(HD2++((Fs.take j).map (a0V L)).flatten).toArray⟩/\i=.int .i64 (j:Int)/\Below w3.heap.size w3 wr) (fun _ i _=>Fs.length - (intOf i).toNat)
   case atStart=>exact⟨0,Nat.zero_le _,by rw[HHX.out];simp,rfl,Below.refl _ _⟩
   case round=>
    obtain⟨j,hj,rfl,rfl,hb⟩:=hrel
    have HBC:=h_ hb
    have HWj:=t_ HW3 hb
    have HBj:=h_ (HB3.out.below hb)
    have p3:=HBj.out.cell 3 rfl
    have lp:w.heap.size<wr.heap.size:=HBj.out.lt
    clear hb
    by_cases hlt2:j<Fs.length
    ·have k1:(j:Int)<(Fs.length:Int):=by omega
     have k0:(0:Int)<=(j:Int):=by omega
     obtain⟨g,o,eq,hx,fb,fc,hec,hil⟩:=H3.out.at_ hlt2
     subst eq
     have hfo:=HFO.out.2 _ (List.getElem_mem hx)
     have hci:=a6u HLN.2 hfo
     have hnf:=a1u HCO.out.2.1 hci
     have hft:=a0a hfo.1
     have HN2:=h_ fun(w':World) (hw':Below wr.heap.size wr w')=>HNK.out w' Fs[j].cols fb fc hci hil (HWj.out.trans (hw'.mono HWj.out.size))
     have HT:=h_ (a3o (a0V L) hx)
     have HFT2:Hid (a0V L Fs[j]=[44,32,70,79,82,69,73,71,78,32,75,69,89,32]++namesT L Fs[j].cols++[32,82,69,70,69,82,69,78,67,69,83,32]++Fs[j].tb):=h_ rfl
     have hb2:=HFT.out j
     generalize hM1:((Fs.take (j+1)).map (a0V L)).flatten=M1 at HT
     have HM1:=h_ hM1
     clear hfo hil hci hM1
     generalize a0V L Fs[j]=ft at HT HFT2
     have hs1:=mkS (namesT L Fs[j].cols)
     generalize namesT L Fs[j].cols=N1 at HN2 hnf HFT2 hs1
     have hs2:=mkS Fs[j].tb
     generalize Fs[j].tb=ftb at hec hft HFT2 hs2
     generalize Fs[j].cols=fcols at hec HN2
     have hlc2:(HD2++((Fs.take j).map (a0V L)).flatten).length<=4000:=by rw[List.length_append];omega
     have HAC:Hid (HD2++((Fs.take j).map (a0V L)).flatten++ft=HD2++M1):=h_ (by rw[HT.out,List.append_assoc])
     have hsb:=mkS (HD2++((Fs.take j).map (a0V L)).flatten)
     generalize HD2++((Fs.take j).map (a0V L)).flatten=AD at hlc2 HAC hsb |-
     have z1:¬9223372036854775807<AD.length+14:=by omega
     have z2:¬9223372036854775807<AD.length+14+N1.length:=by omega
     have z3:¬9223372036854775807<AD.length+14+N1.length+12:=by omega
     have z4:¬maxLen<AD.length+14+N1.length+12+ftb.length:=by unfold maxLen;omega
     have HEC:=h_ hec
     have lg:g<wr.heap.size:=Nat.lt_of_lt_of_le hec.1 HWj.out.size
     clear hec HT
     go_upto_region 10 with(fail)
     clear p3
     refine Gr.f_ 18 (by kernel_rfl) (by kernel_rfl) (fun w'=>Below wr.heap.size wr w') ⟨rfl,rfl,rfl,Nat.le_refl _,fun _ _=>rfl⟩ ?_
     simp only[List.take_succ_cons,List.take_zero,List.drop_succ_cons,List.drop_zero]
     iterate 18
      first
      |apply Gr.sn (.string ⟨N1.toArray⟩);focus(go_simp;intro w' hw';go_simp;rw[Gr.b_];exact Ret.fam (HN2.out w' hw') hw';done)
      |apply Gr.sn;focus(go_simp;intro w' hw';go_simp;rw[Gr.a_];done)
      |apply Gr.sn;focus(go_simp;intro w' hw';have t3:=(HBj.out.below hw').cell 3 rfl;go_simp;rw[Gr.a_];done)
      |apply Gr.sn;focus(go_simp;intro w' hw';have e0:=HEC.out.at0 (HWj.out.trans (hw'.mono HWj.out.size)) rfl;go_simp;rw[Gr.a_];done)
      |apply Gr.sn;focus(go_simp;intro w' hw';have e1:=HEC.out.at_ (HWj.out.trans (hw'.mono HWj.out.size)) (j:=1) rfl;go_simp;rw[Gr.a_];done)
      |apply Gr.sn;focus(go_simp;intro w' hw';have t0:=(HBj.out.below hw').cell 0 rfl;have t1:=(HBj.out.below hw').cell 1 rfl;have t2:=(HBj.out.below hw').cell 2 rfl;have t3:=(HBj.out.below hw').cell 3 rfl;have t4:=(HBj.out.below hw').cell 4 rfl;go_simp;rw[Gr.a_];done)
      intro K hK;go_simp;refine hK _ ?_;clear hK K
     refine Gr.o_ fun w8 hw8=>?_
     have HB8:=t_ HBC hw8
     clear hw8 HN2 HEC
     go_wp2_with fail
     go_roundw
     case rel=>exact⟨j+1,by omega,by rw[HM1.out,<-HAC.out,HFT2.out];exact congrArg Value.string (str_eq (by simp[ByteArray.data_append])),by go_num,HB8.out⟩
     case measure=>simp[intOf];omega
    ·obtain rfl:j=Fs.length:=by omega
     have d2:decide ((Fs.length:Int)<(Fs.length:Int))=false:=decide_eq_false (by omega)
     have hb2:=HFT.out Fs.length
     have HTL:Hid (((Fs.take Fs.length).map (a0V L)).flatten=(Fs.map (a0V L)).flatten):=h_ (by rw[List.take_length])
     have HCR2:Hid (R=HD2++((Fs.take Fs.length).map (a0V L)).flatten++(Xs.map a0F).flatten++[41]):=h_ (by rw[HTL.out];exact HCR.out)
     have hlc2:(HD2++((Fs.take Fs.length).map (a0V L)).flatten).length<=4000:=by rw[List.length_append];omega
     generalize HD2++((Fs.take Fs.length).map (a0V L)).flatten=AD at HCR2 hlc2 |-
     go_upto_region 12 with(fail)
     clear p3 lp
     obtain⟨w6,e6⟩:∃x,x=wr:=⟨_,rfl⟩
     subst e6
     go_loopw [5,8] (fun s i wi=>∃n:Nat,n<=Xs.length/\s=.string ⟨(AD++((Xs.take n).map a0F).flatten).toArray⟩/\i=.int .i64 (n:Int)/\Below w6.heap.size w6 wi) (fun _ i _=>Xs.length - (intOf i).toNat)
     case atStart=>exact⟨0,Nat.zero_le _,by simp,rfl,Below.refl _ _⟩
     case round=>
      obtain⟨n,hn,rfl,rfl,hb⟩:=hrel
      have HB7:=h_ hb
      have HWn:=t_ HWj hb
      clear hb
      by_cases hlt3:n<Xs.length
      ·have k1:(n:Int)<(Xs.length:Int):=by omega
       have k0:(0:Int)<=(n:Int):=by omega
       obtain⟨g,o,us,eq,hec,hkx,hrx⟩:=H4.out.ec hlt3
       subst eq
       have HP1:=h_ fun(w':World) (hw':Below wr.heap.size wr w')=>HEX.out w' Xs[n] us (List.getElem_mem hkx) hrx (HWn.out.trans (hw'.mono HWn.out.size))
       have HT:=h_ (a3o a0F hkx)
       have HCT:Hid (a0F Xs[n]=[44,32,67,72,69,67,75,32,40]++txt Xs[n]++[41]):=h_ rfl
       have hb3:=HXT.out n
       have htx:=(A_ _ Xs[n] (Nat.le_refl _) (HXX.out _ (List.getElem_mem hkx)).2).2
       have hnx:=(HXX.out _ (List.getElem_mem hkx)).1
       generalize hM1:((Xs.take (n+1)).map a0F).flatten=M1 at HT
       have HM1:=h_ hM1
       clear hM1
       generalize a0F Xs[n]=ct at HT HCT
       have hst2:=mkS (txt Xs[n])
       have htl:(txt Xs[n]).length<=1200000:=by omega
       clear htx hnx
       generalize txt Xs[n]=tx at HP1 HCT hst2 htl
       have hlc3:(AD++((Xs.take n).map a0F).flatten).length<=6000000:=by rw[List.length_append];omega
       have HAC:Hid (AD++((Xs.take n).map a0F).flatten++ct=AD++M1):=h_ (by rw[HT.out,List.append_assoc])
       have hsa2:=mkS (AD++((Xs.take n).map a0F).flatten)
       generalize AD++((Xs.take n).map a0F).flatten=AE at hlc3 HAC hsa2 |-
       have y1:¬maxLen<AE.length+9:=by unfold maxLen;omega
       have y2:¬maxLen<AE.length+9+tx.length:=by unfold maxLen;omega
       have y3:¬maxLen<AE.length+9+tx.length+1:=by unfold maxLen;omega
       generalize Xs[n]=xk at hrx
       obtain⟨eop,eint,evk,evi,evs,enm,el⟩:=xk
       obtain⟨ea,em,rfl,_⟩:=hrx.lits
       obtain⟨c0,c1,c2,c3,c4,c5,c6⟩:=hec.c7 HWn.out
       have lg:g<wr.heap.size:=Nat.lt_of_lt_of_le hec.1 HWn.out.size
       clear hec hrx HT
       go_wp2_with fail
       refine(HP1.out _ (Below.refl _ _)).mono ?_
       rintro e w8 ⟨rfl,hw8⟩
       have HB8:=t_ HB7 hw8
       clear hw8 c0 c1 c2 c3 c4 c5 c6 HP1
       go_wp2_with fail
       go_roundw
       case rel=>exact⟨n+1,by omega,by rw[HM1.out,<-HAC.out,HCT.out];exact congrArg Value.string (str_eq (by simp[ByteArray.data_append])),by go_num,HB8.out⟩
       case measure=>simp[intOf];omega
      ·obtain rfl:n=Xs.length:=by omega
       have d3:decide ((Xs.length:Int)<(Xs.length:Int))=false:=decide_eq_false (by omega)
       have hb3:=HXT.out Xs.length
       have HTL2:Hid (((Xs.take Xs.length).map a0F).flatten=(Xs.map a0F).flatten):=h_ (by rw[List.take_length])
       have HR2:Hid (R=AD++((Xs.take Xs.length).map a0F).flatten++[41]):=h_ (by rw[HTL2.out];exact HCR2.out)
       have hlc3:(AD++((Xs.take Xs.length).map a0F).flatten).length<=6000000:=by rw[List.length_append];omega
       have hsa2:=mkS (AD++((Xs.take Xs.length).map a0F).flatten)
       generalize AD++((Xs.take Xs.length).map a0F).flatten=AE at hlc3 HR2 hsa2 |-
       have y3:¬maxLen<AE.length+1:=by unfold maxLen;omega
       go_wp2_with fail
       go_ret
       rw[HR2.out]
       exact Ret.str (by simp[ByteArray.data_append]) HWn.out
end Go.Proofs.YtlimlmjljjmcpaaGreatDoor.Px
