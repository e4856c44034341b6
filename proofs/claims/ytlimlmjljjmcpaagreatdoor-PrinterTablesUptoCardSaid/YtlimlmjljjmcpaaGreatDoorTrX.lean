import Derived.Test.YtlimlmjljjmcpaaGreatDoorBpX
set_option maxHeartbeats 16000000
set_option maxRecDepth 100000
namespace Go.Proofs.YtlimlmjljjmcpaaGreatDoor.Px
open Go Go.RowKit Go.Proofs.YtlimlmjljjmcpaaGreatDoor.Ps
set_option linter.unusedVariables false
set_option linter.unusedSimpArgs false
theorem a8g(L:List Col)(tn:S)(a a2 a3 a4:Option Addr)(m n2 m2 n3 m3 n4 m4:Nat)(w:World)(hn:L.length<=1000000)(hl:CL w L (.slice a L.length m)):Calls Tryz.prog 131 #[.agg #[.string ⟨tn.toArray⟩,.slice a L.length m,.slice a2 n2 m2,.slice a3 n3 m3,.slice a4 n4 m4]] w (a1J w (a0f L)):=by
 have HL:=h_ hl
 clear hl
 go_enter Tryz.func131,Tryz.ntmps131
 go_upto_region 1 with(fail)
 refine nA fun w1 hB0 hw1 hz1=>?_
 have HB0:=h_ hB0
 have HW1:=h_ hw1
 have p1:=hB0.cell 1 rfl
 clear hB0 hw1 hz1
 by_cases h1:(L.length:Int)<1
 ·have HNO:Hid (¬a0f L):=h_ fun h=>by have:=h.1;omega
  go_wp2_with fail
  go_ret
  exact⟨13,rfl,no_ (by decide) HNO.out,HW1.out⟩
 ·by_cases h12:(12:Int)<(L.length:Int)
  ·have HNO:Hid (¬a0f L):=h_ fun h=>by have:=h.1;omega
   go_wp2_with fail
   go_ret
   exact⟨13,rfl,no_ (by decide) HNO.out,HW1.out⟩
  ·have HLN:Hid (1<=L.length/\L.length<=12):=h_ ⟨by omega,by omega⟩
   go_upto_region 4 with(fail)
   go_loopw [3] (fun i wr=>∃k:Nat,k<=L.length/\i=.int .i64 (k:Int)/\Hid (∀j (hj:j<L.length),j<k->(j:Int)<=a1A L L[j].nm/\a1C L[j])/\Below w1.heap.size w1 wr) (fun i _=>L.length - (intOf i).toNat)
   case atStart=>exact⟨0,Nat.zero_le _,rfl,h_ (fun j hj h=>absurd h (by omega)),Below.refl _ _⟩
   case round=>
    obtain⟨k,hk,rfl,HR,hb⟩:=hrel
    have HBr:=h_ (HB0.out.below hb)
    have HBB:=h_ hb
    have HWr:=t_ HW1 hb
    clear hb p1
    have p1:=HBr.out.cell 1 rfl
    by_cases hlt:k<L.length
    ·have k1:(k:Int)<(L.length:Int):=by omega
     have k0:(0:Int)<=(k:Int):=by omega
     obtain⟨g,o,eq,hx,hec⟩:=HL.out.at_ hlt
     subst eq
     have c0:=hec.at0 HWr.out rfl
     have c1:=hec.at_ HWr.out (j:=1) rfl
     have c2:=hec.at_ HWr.out (j:=2) rfl
     have HCK:Hid (a0f L->nameB L[k].nm=true/\1<=L[k].kind/\L[k].kind<=3):=h_ fun h=>h.2.1 _ (List.getElem_mem hx)
     have HDF:Hid (a0f L->a1A L L[k].nm=(k:Int)):=h_ fun h=>a3c h.2.2 hx
     have HST:Hid ((k:Int)<=a1A L L[k].nm->(nameB L[k].nm=true/\1<=L[k].kind/\L[k].kind<=3) -> ∀j (hj:j<L.length),j<k+1->(j:Int)<=a1A L L[j].nm/\a1C L[j]):=h_ fun h h3 j hj hjk=>by
      by_cases e:j=k
      ·subst e;exact⟨h,h3⟩
      ·exact HR.out j hj (by omega)
     clear hec
     generalize L[k].nm=nm at c0 HST HCK HDF
     generalize L[k].kind=kd at c1 HST HCK
     generalize L[k].nul=nl at c2
     go_upto_region 7 with(fail)
     refine nA fun w3 hB3 hw3 hsz3=>?_
     have HB3:=h_ hB3
     have HC0:=h_ (HBr.out.below hw3)
     have HW3:=t_ HWr hw3
     have HBB3:=t_ HBB hw3
     clear hB3 hw3 hsz3 c0 c1 c2 p1 HBr HWr HBB
     have z0:=HB3.out.cell 0 rfl
     go_wp2_with fail
     refine(a1H nm w3).mono ?_
     rintro e w4 ⟨rfl,hw4⟩
     have HD0:=h_ (HC0.out.below hw4)
     have HD3:=h_ (HB3.out.below hw4)
     have HW4:=t_ HW3 hw4
     have HBB4:=t_ HBB3 hw4
     clear hw4 z0 HB3 HC0 HW3 HBB3
     cases hnb:nameB nm with
     |false=>
      have HNO:Hid (¬a0f L):=h_ fun h=>by have:=(HCK.out h).1;rw[hnb] at this;cases this
      go_wp2_with fail
      go_ret
      exact⟨1,rfl,no_ (by decide) HNO.out,HW4.out⟩
     |true=>
      have z1:=HD3.out.cell 1 rfl
      by_cases g1:kd<1
      ·have HNO:Hid (¬a0f L):=h_ fun h=>by have:=(HCK.out h).2;omega
       go_wp2_with fail
       go_ret
       exact⟨7,rfl,no_ (by decide) HNO.out,HW4.out⟩
      ·by_cases g3:3<kd
       ·have HNO:Hid (¬a0f L):=h_ fun h=>by have:=(HCK.out h).2;omega
        go_wp2_with fail
        go_ret
        exact⟨7,rfl,no_ (by decide) HNO.out,HW4.out⟩
       ·have HCC:Hid (nameB nm=true/\1<=kd/\kd<=3):=h_ ⟨hnb,by omega,by omega⟩
        have z0:=HD3.out.cell 0 rfl
        obtain⟨t0,t1,t2,t3,t4⟩:=HD0.out.c5
        go_wp2_with fail
        refine(a7B L nm tn _ m _ _ _ w4 (by omega) (HL.out.kept HW4.out (Nat.le_refl _))).mono ?_
        rintro e w5 ⟨rfl,hw5⟩
        have HW5:=t_ HW4 hw5
        have HBB5:=t_ HBB4 hw5
        clear hw5 z0 z1 t0 t1 t2 t3 t4 HD0 HD3 HW4 HBB4
        generalize a1A L nm=V at HST HDF |-
        by_cases hv:V<(k:Int)
        ·have HNO:Hid (¬a0f L):=h_ fun h=>by have:=HDF.out h;omega
         go_wp2_with fail
         go_ret
         exact⟨10,rfl,no_ (by decide) HNO.out,HW5.out⟩
        ·have HN:=h_ (HST.out (by omega) HCC.out)
         go_wp2_with fail
         go_roundw
         case rel=>exact⟨k+1,by omega,by go_num,HN,HBB5.out⟩
         case measure=>simp[intOf];omega
    ·obtain rfl:k=L.length:=by omega
     have d1:decide ((L.length:Int)<(L.length:Int))=false:=decide_eq_false (by omega)
     have HD:Hid (a0f L):=h_ ⟨HLN.out,fun c hc=>by
      obtain⟨i,hi,rfl⟩:=List.getElem_of_mem hc
      exact(HR.out i hi hi).2,b3z fun j hj=>(HR.out j hj hj).1⟩
     go_wp2_with fail
     go_ret
     exact⟨0,rfl,b1u HD.out,HWr.out⟩
theorem b2M(L:List Col)(K:List Int)(tn:S)(a a2 a3 a4:Option Addr)(m m2 n3 m3 n4 m4:Nat)(w:World)(hn:L.length<=1000000)(hk:K.length<=1099511627776)(hl:CL w L (.slice a L.length m))(hi:IL w K (.slice a2 K.length m2)):Calls Tryz.prog 132 #[.agg #[.string ⟨tn.toArray⟩,.slice a L.length m,.slice a2 K.length m2,.slice a3 n3 m3,.slice a4 n4 m4]] w (a1J w (a2F L K)):=by
 have HL:=h_ hl
 have HI:=h_ hi
 clear hl hi
 go_enter Tryz.func132,Tryz.ntmps132
 go_upto_region 1 with(fail)
 refine nA fun w1 hB0 hw1 hz1=>?_
 have HB0:=h_ hB0
 have HW1:=h_ hw1
 have p2:=hB0.cell 2 rfl
 clear hB0 hw1 hz1
 by_cases h0:K.length=0
 ·have d0:((K.length:Int)==0)=true:=by simp[h0]
  have d0':(K.length==0)=true:=by simp[h0]
  have d0'':K.isEmpty=true:=by cases K;rfl;simp at h0
  have HNO:Hid (¬a2F L K):=h_ fun h=>h.1 h0
  go_wp2_with fail
  go_ret
  exact⟨25,rfl,no_ (by decide) HNO.out,HW1.out⟩
 ·have d0:((K.length:Int)==0)=false:=by rw[beq_eq_false_iff_ne];omega
  have d0':(K.length==0)=false:=by rw[beq_eq_false_iff_ne];omega
  have d0'':K.isEmpty=false:=by cases K;exact absurd rfl h0;rfl
  have HN0:=h_ h0
  go_upto_region 4 with(fail)
  go_loopw [3] (fun i wr=>∃k:Nat,k<=K.length/\i=.int .i64 (k:Int)/\Hid (∀j (h:j<K.length),j<k->keyAt L K j h)/\Below w1.heap.size w1 wr) (fun i _=>K.length - (intOf i).toNat)
  case atStart=>exact⟨0,Nat.zero_le _,rfl,h_ (fun j h hj=>absurd hj (by omega)),Below.refl _ _⟩
  case round=>
   obtain⟨k,hkk,rfl,HR,hb⟩:=hrel
   have HBr:=h_ (HB0.out.below hb)
   have HBB:=h_ hb
   have HWr:=t_ HW1 hb
   clear hb p2
   have p2:=HBr.out.cell 2 rfl
   by_cases hlt:k<K.length
   ·have k1:(k:Int)<(K.length:Int):=by omega
    have k0:(0:Int)<=(k:Int):=by omega
    obtain⟨gk,ok,eq,hx,hec⟩:=HI.out.at_ hlt
    subst eq
    have HKC:Hid (EC w gk (ok+k) [.int .i64 K[k]]):=h_ (by simpa using hec)
    clear hec
    have HNK:Hid (¬keyAt L K k hlt -> ¬a2F L K):=h_ fun h h2=>h (h2.2 k hlt)
    have HST:Hid (keyAt L K k hlt -> ∀j (h:j<K.length),j<k+1->keyAt L K j h):=h_ fun h j hj hjk=>by
     by_cases e:j=k
     ·subst e;exact h
     ·exact HR.out j hj (by omega)
    have HAT:Hid (keyAt L K k hlt↔exB K[k] L.length=true/\(∀h0:0<k,K[k - 1]<K[k])/\a8C L K[k]=false):=h_ Iff.rfl
    generalize keyAt L K k hlt=KA at HNK HST HAT
    go_upto_region 6 with(fail)
    by_cases hex:exB K[k] L.length=true
    ·have HCN0:Hid (∃g o nl nm kd,a=some ⟨g,o,none⟩/\a8C L K[k]=nl/\EC w g (o+K[k].toNat*3) [.string nm,.int .i64 kd,.bool nl]/\0<=K[k]/\K[k]<(L.length:Int)):=h_ (by
      unfold exB at hex
      simp only[Bool.and_eq_true,decide_eq_true_eq] at hex
      obtain⟨g,o,e,hx2,h2⟩:=HL.out.at_ (k:=K[k].toNat) (by omega)
      exact⟨g,o,_,_,_,e,b4j hx2,h2,hex⟩)
     have HEX:=h_ hex
     have HKD:Hid (∀h0:0<k,∃kv2,kv2=K[k - 1]/\EC w gk (ok+(k - 1)) [.int .i64 kv2]):=h_ fun h=>by
      obtain⟨g2,o2,e2,hx2,hec2⟩:=HI.out.at_ (k:=k - 1) (by omega)
      cases e2
      exact⟨_,rfl,by simpa using hec2⟩
     clear hex p2
     generalize K[k]=kv at HKC HEX HCN0 HAT
     obtain⟨g,o,nl,nm,kd,ea,hnl,hcn,v0,v1⟩:=HCN0.out
     have HNL:=h_ hnl
     clear hnl
     have HCN:=h_ hcn
     clear hcn HCN0
     subst ea
     have HEC:Hid (∀w',Calls Tryz.prog 210 #[.agg #[.string ⟨tn.toArray⟩,.slice (some ⟨g,o,none⟩) L.length m,.slice (some ⟨gk,ok,none⟩) K.length m2,.slice a3 n3 m3,.slice a4 n4 m4],.int .i64 kv] w' (Ret w' (.bool true))):=h_ fun w'=>by
      have h9:=a3f L tn (some ⟨g,o,none⟩) (some ⟨gk,ok,none⟩) a3 a4 m K.length m2 n3 m3 n4 m4 kv w'
      rw[HEX.out] at h9
      exact h9
     by_cases hz:k=0
     ·have HZ:=h_ hz
      clear HKD hz
      refine Gr.f_ 25 (by kernel_rfl) (by kernel_rfl) (fun w'=>Below wr.heap.size wr w') ⟨rfl,rfl,rfl,Nat.le_refl _,fun _ _=>rfl⟩ ?_
      simp only[List.take_succ_cons,List.take_zero,List.drop_succ_cons,List.drop_zero]
      refine Gr.sn _ (by go_simp;intro w' hw';have t0:=(HBr.out.below hw').cell 0 rfl;have t1:=(HBr.out.below hw').cell 1 rfl;have t2:=(HBr.out.below hw').cell 2 rfl;have t3:=(HBr.out.below hw').cell 3 rfl;have t4:=(HBr.out.below hw').cell 4 rfl;go_simp;rw[Gr.a_]) fun K hK=>?_;go_simp;refine hK _ ?_;clear hK K
      refine Gr.sn _ (by go_simp;intro w' hw';go_simp;rw[Gr.a_]) fun K hK=>?_;go_simp;refine hK _ ?_;clear hK K
      refine Gr.sn _ (by go_simp;intro w' hw';have t2:=(HBr.out.below hw').cell 2 rfl;go_simp;rw[Gr.a_]) fun K hK=>?_;go_simp;refine hK _ ?_;clear hK K
      iterate 2
       refine Gr.sn _ (by go_simp;intro w' hw';go_simp;rw[Gr.a_]) fun K hK=>?_;go_simp;refine hK _ ?_;clear hK K
      refine Gr.sn _ (by go_simp;intro w' hw';have e0:=HKC.out.at0 (HWr.out.trans (hw'.mono HWr.out.size)) rfl;go_simp;rw[Gr.a_]) fun K hK=>?_;go_simp;refine hK _ ?_;clear hK K
      refine Gr.sn (.bool true) (by go_simp;intro w' hw';go_simp;rw[Gr.b_];exact Ret.fam (HEC.out w') hw') fun K hK=>?_;go_simp;refine hK _ ?_;clear hK K
      iterate 3
       refine Gr.sn _ (by go_simp;intro w' hw';go_simp;rw[Gr.a_]) fun K hK=>?_;go_simp;refine hK _ ?_;clear hK K
      refine Gr.sn (.bool false) (by go_simp;intro w' hw';have kz:decide (0<k)=false:=decide_eq_false (by have:=HZ.out;omega);go_simp;rw[Gr.a_]) fun K hK=>?_;go_simp;refine hK _ ?_;clear hK K
      refine Gr.sn (.bool false) (by go_simp;intro w' hw';go_simp;rw[Gr.a_]) fun K hK=>?_;go_simp;refine hK _ ?_;clear hK K
      iterate 12
       refine Gr.sn undef (by go_simp;try(intro hz;cases hz)) fun K hK=>?_;go_simp;refine hK _ ?_;clear hK K
      refine Gr.sn (.bool false) (by go_simp;intro w' hw';go_simp;rw[Gr.a_]) fun K hK=>?_;go_simp;refine hK _ ?_;clear hK K
      refine Gr.o_ fun w4 hw4=>?_
      have HD0:=h_ (HBr.out.below hw4)
      have HW4:=t_ HWr hw4
      have HBB4:=t_ HBB hw4
      clear hw4
      go_upto_region 8 with(fail)
      refine Gr.f_ 9 (by kernel_rfl) (by kernel_rfl) (fun w'=>Below w4.heap.size w4 w') ⟨rfl,rfl,rfl,Nat.le_refl _,fun _ _=>rfl⟩ ?_
      simp only[List.take_succ_cons,List.take_zero,List.drop_succ_cons,List.drop_zero]
      refine Gr.sn _ (by go_simp;intro w' hw';go_simp;rw[Gr.a_]) fun K hK=>?_;go_simp;refine hK _ ?_;clear hK K
      refine Gr.sn _ (by go_simp;intro w' hw';have t1:=(HD0.out.below hw').cell 1 rfl;go_simp;rw[Gr.a_]) fun K hK=>?_;go_simp;refine hK _ ?_;clear hK K
      refine Gr.sn _ (by go_simp;intro w' hw';go_simp;rw[Gr.a_]) fun K hK=>?_;go_simp;refine hK _ ?_;clear hK K
      refine Gr.sn _ (by go_simp;intro w' hw';have t2:=(HD0.out.below hw').cell 2 rfl;go_simp;rw[Gr.a_]) fun K hK=>?_;go_simp;refine hK _ ?_;clear hK K
      iterate 2
       refine Gr.sn _ (by go_simp;intro w' hw';go_simp;rw[Gr.a_]) fun K hK=>?_;go_simp;refine hK _ ?_;clear hK K
      refine Gr.sn _ (by go_simp;intro w' hw';have e0:=HKC.out.at0 (HW4.out.trans (hw'.mono HW4.out.size)) rfl;go_simp;rw[Gr.a_]) fun K hK=>?_;go_simp;refine hK _ ?_;clear hK K
      iterate 2
       refine Gr.sn _ (by go_simp;intro w' hw';go_simp;rw[Gr.a_]) fun K hK=>?_;go_simp;refine hK _ ?_;clear hK K
      refine Gr.o_ fun w5 hw5=>?_
      have c2:=HCN.out.at_ (HW4.out.trans (hw5.mono HW4.out.size)) (j:=2) rfl
      have HBB5:=t_ HBB4 hw5
      have HW5:=t_ HW4 hw5
      clear hw5
      cases nl with
      |true=>
       have HNO:=h_ (HNK.out fun h=>by have:=(HAT.out.1 h).2.2;rw[HNL.out] at this;cases this)
       go_wp2_with fail
       go_ret
       exact⟨12,rfl,no_ (by decide) HNO.out,HW5.out⟩
      |false=>
       have HN:=h_ (HST.out (HAT.out.2 ⟨HEX.out,fun h0=>absurd h0 (by have:=HZ.out;omega),HNL.out⟩))
       go_wp2_with fail
       go_roundw
       case rel=>exact⟨k+1,by omega,by go_num,HN,HBB5.out⟩
       case measure=>simp[intOf];omega
     ·obtain⟨kv2,hk2,hkd⟩:=HKD.out (by omega)
      have HLT:=h_ hk2
      clear hk2
      have HKD:Hid (EC w gk (ok+(k - 1)) [.int .i64 kv2]):=h_ hkd
      have kp:0<k:=by omega
      clear hkd
      refine Gr.f_ 25 (by kernel_rfl) (by kernel_rfl) (fun w'=>Below wr.heap.size wr w') ⟨rfl,rfl,rfl,Nat.le_refl _,fun _ _=>rfl⟩ ?_
      simp only[List.take_succ_cons,List.take_zero,List.drop_succ_cons,List.drop_zero]
      refine Gr.sn _ (by go_simp;intro w' hw';have t0:=(HBr.out.below hw').cell 0 rfl;have t1:=(HBr.out.below hw').cell 1 rfl;have t2:=(HBr.out.below hw').cell 2 rfl;have t3:=(HBr.out.below hw').cell 3 rfl;have t4:=(HBr.out.below hw').cell 4 rfl;go_simp;rw[Gr.a_]) fun K hK=>?_;go_simp;refine hK _ ?_;clear hK K
      refine Gr.sn _ (by go_simp;intro w' hw';go_simp;rw[Gr.a_]) fun K hK=>?_;go_simp;refine hK _ ?_;clear hK K
      refine Gr.sn _ (by go_simp;intro w' hw';have t2:=(HBr.out.below hw').cell 2 rfl;go_simp;rw[Gr.a_]) fun K hK=>?_;go_simp;refine hK _ ?_;clear hK K
      iterate 2
       refine Gr.sn _ (by go_simp;intro w' hw';go_simp;rw[Gr.a_]) fun K hK=>?_;go_simp;refine hK _ ?_;clear hK K
      refine Gr.sn _ (by go_simp;intro w' hw';have e0:=HKC.out.at0 (HWr.out.trans (hw'.mono HWr.out.size)) rfl;go_simp;rw[Gr.a_]) fun K hK=>?_;go_simp;refine hK _ ?_;clear hK K
      refine Gr.sn (.bool true) (by go_simp;intro w' hw';go_simp;rw[Gr.b_];exact Ret.fam (HEC.out w') hw') fun K hK=>?_;go_simp;refine hK _ ?_;clear hK K
      iterate 6
       refine Gr.sn _ (by go_simp;intro w' hw';go_simp;rw[Gr.a_]) fun K hK=>?_;go_simp;refine hK _ ?_;clear hK K
      refine Gr.sn _ (by go_simp;intro w' hw';have t2:=(HBr.out.below hw').cell 2 rfl;go_simp;rw[Gr.a_]) fun K hK=>?_;go_simp;refine hK _ ?_;clear hK K
      iterate 2
       refine Gr.sn _ (by go_simp;intro w' hw';go_simp;rw[Gr.a_]) fun K hK=>?_;go_simp;refine hK _ ?_;clear hK K
      refine Gr.sn _ (by go_simp;intro w' hw';have e0:=HKC.out.at0 (HWr.out.trans (hw'.mono HWr.out.size)) rfl;go_simp;rw[Gr.a_]) fun K hK=>?_;go_simp;refine hK _ ?_;clear hK K
      refine Gr.sn _ (by go_simp;intro w' hw';go_simp;rw[Gr.a_]) fun K hK=>?_;go_simp;refine hK _ ?_;clear hK K
      refine Gr.sn _ (by go_simp;intro w' hw';have t2:=(HBr.out.below hw').cell 2 rfl;go_simp;rw[Gr.a_]) fun K hK=>?_;go_simp;refine hK _ ?_;clear hK K
      refine Gr.sn _ (by go_simp;intro w' hw';go_simp;rw[Gr.a_]) fun K hK=>?_;go_simp;refine hK _ ?_;clear hK K
      refine Gr.sn (.int .i64 ((k:Int) - 1)) (by go_simp;intro w' hw';have kw:IntKind.i64.wrap ((k:Int) - 1)=(k:Int) - 1:=Go.IntWalk.i64_in _ (by omega);go_simp;rw[Gr.a_]) fun K hK=>?_;go_simp;refine hK _ ?_;clear hK K
      refine Gr.sn (.pointer (some ⟨gk,ok+(k - 1),none⟩)) (by go_simp;intro w' hw';have kn:((k:Int) - 1).toNat=k - 1:=(by omega);have ka:0<=(k:Int) - 1:=(by omega);have kc:1<=(k:Int):=(by omega);have kb:(k:Int) - 1<(K.length:Int):=(by omega);go_simp;rw[Gr.a_]) fun K hK=>?_;go_simp;refine hK _ ?_;clear hK K
      refine Gr.sn _ (by go_simp;intro w' hw';have e1:=HKD.out.at0 (HWr.out.trans (hw'.mono HWr.out.size)) rfl;go_simp;rw[Gr.a_]) fun K hK=>?_;go_simp;refine hK _ ?_;clear hK K
      iterate 2
       refine Gr.sn _ (by go_simp;intro w' hw';go_simp;rw[Gr.a_]) fun K hK=>?_;go_simp;refine hK _ ?_;clear hK K
      refine Gr.o_ fun w4 hw4=>?_
      have HD0:=h_ (HBr.out.below hw4)
      have HW4:=t_ HWr hw4
      have HBB4:=t_ HBB hw4
      clear hw4
      by_cases hle:kv<=kv2
      ·have HNO:=h_ (HNK.out fun h=>by have:=(HAT.out.1 h).2.1 kp;rw[<-HLT.out] at this;omega)
       go_wp2_with fail
       go_ret
       exact⟨25,rfl,no_ (by decide) HNO.out,HW4.out⟩
      ·have HLE:Hid (∀h0:0<k,K[k - 1]<kv):=h_ fun _=>by rw[<-HLT.out];omega
       have hle2:kv2<kv:=by omega
       clear hle
       go_upto_region 8 with(fail)
       refine Gr.f_ 9 (by kernel_rfl) (by kernel_rfl) (fun w'=>Below w4.heap.size w4 w') ⟨rfl,rfl,rfl,Nat.le_refl _,fun _ _=>rfl⟩ ?_
       simp only[List.take_succ_cons,List.take_zero,List.drop_succ_cons,List.drop_zero]
       refine Gr.sn _ (by go_simp;intro w' hw';go_simp;rw[Gr.a_]) fun K hK=>?_;go_simp;refine hK _ ?_;clear hK K
       refine Gr.sn _ (by go_simp;intro w' hw';have t1:=(HD0.out.below hw').cell 1 rfl;go_simp;rw[Gr.a_]) fun K hK=>?_;go_simp;refine hK _ ?_;clear hK K
       refine Gr.sn _ (by go_simp;intro w' hw';go_simp;rw[Gr.a_]) fun K hK=>?_;go_simp;refine hK _ ?_;clear hK K
       refine Gr.sn _ (by go_simp;intro w' hw';have t2:=(HD0.out.below hw').cell 2 rfl;go_simp;rw[Gr.a_]) fun K hK=>?_;go_simp;refine hK _ ?_;clear hK K
       iterate 2
        refine Gr.sn _ (by go_simp;intro w' hw';go_simp;rw[Gr.a_]) fun K hK=>?_;go_simp;refine hK _ ?_;clear hK K
       refine Gr.sn _ (by go_simp;intro w' hw';have e0:=HKC.out.at0 (HW4.out.trans (hw'.mono HW4.out.size)) rfl;go_simp;rw[Gr.a_]) fun K hK=>?_;go_simp;refine hK _ ?_;clear hK K
       iterate 2
        refine Gr.sn _ (by go_simp;intro w' hw';go_simp;rw[Gr.a_]) fun K hK=>?_;go_simp;refine hK _ ?_;clear hK K
       refine Gr.o_ fun w5 hw5=>?_
       have c2:=HCN.out.at_ (HW4.out.trans (hw5.mono HW4.out.size)) (j:=2) rfl
       have HBB5:=t_ HBB4 hw5
       have HW5:=t_ HW4 hw5
       clear hw5
       cases nl with
       |true=>
        have HNO:=h_ (HNK.out fun h=>by have:=(HAT.out.1 h).2.2;rw[HNL.out] at this;cases this)
        go_wp2_with fail
        go_ret
        exact⟨12,rfl,no_ (by decide) HNO.out,HW5.out⟩
       |false=>
        have HN:=h_ (HST.out (HAT.out.2 ⟨HEX.out,HLE.out,HNL.out⟩))
        go_wp2_with fail
        go_roundw
        case rel=>exact⟨k+1,by omega,by go_num,HN,HBB5.out⟩
        case measure=>simp[intOf];omega
    ·have HNO:=h_ (HNK.out fun h=>hex (HAT.out.1 h).1)
     have HEX:Hid (exB K[k] L.length=false):=h_ (by simpa using hex)
     clear hex p2
     generalize K[k]=kv at HKC HEX
     have HEC:Hid (∀w',Calls Tryz.prog 210 #[.agg #[.string ⟨tn.toArray⟩,.slice a L.length m,.slice (some ⟨gk,ok,none⟩) K.length m2,.slice a3 n3 m3,.slice a4 n4 m4],.int .i64 kv] w' (Ret w' (.bool false))):=h_ fun w'=>by
      have h9:=a3f L tn a (some ⟨gk,ok,none⟩) a3 a4 m K.length m2 n3 m3 n4 m4 kv w'
      rw[HEX.out] at h9
      exact h9
     refine Gr.f_ 25 (by kernel_rfl) (by kernel_rfl) (fun w'=>Below wr.heap.size wr w') ⟨rfl,rfl,rfl,Nat.le_refl _,fun _ _=>rfl⟩ ?_
     simp only[List.take_succ_cons,List.take_zero,List.drop_succ_cons,List.drop_zero]
     refine Gr.sn _ (by go_simp;intro w' hw';have t0:=(HBr.out.below hw').cell 0 rfl;have t1:=(HBr.out.below hw').cell 1 rfl;have t2:=(HBr.out.below hw').cell 2 rfl;have t3:=(HBr.out.below hw').cell 3 rfl;have t4:=(HBr.out.below hw').cell 4 rfl;go_simp;rw[Gr.a_]) fun K hK=>?_;go_simp;refine hK _ ?_;clear hK K
     refine Gr.sn _ (by go_simp;intro w' hw';go_simp;rw[Gr.a_]) fun K hK=>?_;go_simp;refine hK _ ?_;clear hK K
     refine Gr.sn _ (by go_simp;intro w' hw';have t2:=(HBr.out.below hw').cell 2 rfl;go_simp;rw[Gr.a_]) fun K hK=>?_;go_simp;refine hK _ ?_;clear hK K
     iterate 2
      refine Gr.sn _ (by go_simp;intro w' hw';go_simp;rw[Gr.a_]) fun K hK=>?_;go_simp;refine hK _ ?_;clear hK K
     refine Gr.sn _ (by go_simp;intro w' hw';have e0:=HKC.out.at0 (HWr.out.trans (hw'.mono HWr.out.size)) rfl;go_simp;rw[Gr.a_]) fun K hK=>?_;go_simp;refine hK _ ?_;clear hK K
     refine Gr.sn (.bool false) (by go_simp;intro w' hw';go_simp;rw[Gr.b_];exact Ret.fam (HEC.out w') hw') fun K hK=>?_;go_simp;refine hK _ ?_;clear hK K
     iterate 2
      refine Gr.sn _ (by go_simp;intro w' hw';go_simp;rw[Gr.a_]) fun K hK=>?_;go_simp;refine hK _ ?_;clear hK K
     iterate 16
      refine Gr.sn undef (by go_simp;try(intro hz;cases hz)) fun K hK=>?_;go_simp;refine hK _ ?_;clear hK K
     refine Gr.o_ fun w4 hw4=>?_
     have HD0:=h_ (HBr.out.below hw4)
     have HW4:=t_ HWr hw4
     have HBB4:=t_ HBB hw4
     clear hw4
     go_wp2_with fail
     go_ret
     exact⟨25,rfl,no_ (by decide) HNO.out,HW4.out⟩
   ·obtain rfl:k=K.length:=by omega
    have d1:decide ((K.length:Int)<(K.length:Int))=false:=decide_eq_false (by omega)
    go_wp2_with fail
    go_ret
    exact⟨0,rfl,b1u ⟨HN0.out,fun j h=>HR.out j h h⟩,HWr.out⟩
theorem a8i(L:List Col)(F:List Int)(tn tb:S)(a a2 a3 a4 fa:Option Addr)(m n2 m2 n3 m3 n4 m4 fm:Nat)(w:World)(hk:F.length<=1099511627776)(hi:IL w F (.slice fa F.length fm)):Calls Tryz.prog 211 #[.agg #[.string ⟨tn.toArray⟩,.slice a L.length m,.slice a2 n2 m2,.slice a3 n3 m3,.slice a4 n4 m4],.agg #[.slice fa F.length fm,.string ⟨tb.toArray⟩]] w (a1J w (a2h L.length F tb)):=by
 have HI:=h_ hi
 clear hi
 go_enter Tryz.func211,Tryz.ntmps211
 go_upto_region 1 with(fail)
 refine nB fun w1 hA0 hB0 hw1 hz1=>?_
 have HA1:=h_ hA0
 have HB1:=h_ hB0
 have HW1:=h_ hw1
 have u1:=hB0.cell 1 rfl
 clear hA0 hB0 hw1 hz1
 go_wp2_with fail
 refine(a1H tb w1).mono ?_
 rintro e w2 ⟨rfl,hw2⟩
 have HA2:=h_ (HA1.out.below hw2)
 have HB2:=h_ (HB1.out.below hw2)
 have HW2:=t_ HW1 hw2
 clear hw2 HA1 HB1 HW1 u1
 cases hnb:nameB tb with
 |false=>
  have HNO:Hid (¬a2h L.length F tb):=h_ fun h=>by have:=h.1;rw[hnb] at this;cases this
  go_wp2_with fail
  go_ret
  exact⟨1,rfl,no_ (by decide) HNO.out,HW2.out⟩
 |true=>
  have HNB:=h_ hnb
  clear hnb
  have u0:=HB2.out.cell 0 rfl
  by_cases h0:F.length=0
  ·have d0:((F.length:Int)==0)=true:=by simp[h0]
   have d0':(F.length==0)=true:=by simp[h0]
   have d0'':F.isEmpty=true:=by cases F;rfl;simp at h0
   have HNO:Hid (¬a2h L.length F tb):=h_ fun h=>h.2.1 h0
   go_wp2_with fail
   go_ret
   exact⟨25,rfl,no_ (by decide) HNO.out,HW2.out⟩
  ·have d0:((F.length:Int)==0)=false:=by rw[beq_eq_false_iff_ne];omega
   have d0':(F.length==0)=false:=by rw[beq_eq_false_iff_ne];omega
   have d0'':F.isEmpty=false:=by cases F;exact absurd rfl h0;rfl
   have HN0:=h_ h0
   go_upto_region 6 with(fail)
   go_loopw [5,6] (fun i _ wr=>∃k:Nat,k<=F.length/\i=.int .i64 (k:Int)/\Hid (∀j (h:j<F.length),j<k->a2R L.length F j h)/\Below w2.heap.size w2 wr) (fun i _ _=>F.length - (intOf i).toNat)
   case atStart=>exact⟨0,Nat.zero_le _,rfl,h_ (fun j h hj=>absurd hj (by omega)),Below.refl _ _⟩
   case round=>
    obtain⟨k,hkk,rfl,HR,hb⟩:=hrel
    have HAr:=h_ (HA2.out.below hb)
    have HBr:=h_ (HB2.out.below hb)
    have HBB:=h_ hb
    have HWr:=t_ HW2 hb
    clear hb u0 d0 d0' d0'' h0
    have u0:=HBr.out.cell 0 rfl
    by_cases hlt:k<F.length
    ·have k1:(k:Int)<(F.length:Int):=by omega
     have k0:(0:Int)<=(k:Int):=by omega
     obtain⟨gk,ok,eq,hx,hec⟩:=HI.out.at_ hlt
     subst eq
     have HKC:Hid (EC w gk (ok+k) [.int .i64 F[k]]):=h_ (by simpa using hec)
     have HEC:Hid (∀w',Calls Tryz.prog 210 #[.agg #[.string ⟨tn.toArray⟩,.slice a L.length m,.slice a2 n2 m2,.slice a3 n3 m3,.slice a4 n4 m4],.int .i64 F[k]] w' (Ret w' (.bool (exB F[k] L.length)))):=h_ fun w'=>a3f L tn a a2 a3 a4 m n2 m2 n3 m3 n4 m4 F[k] w'
     clear hec
     have HNK:Hid (¬a2R L.length F k hlt -> ¬a2h L.length F tb):=h_ fun h h2=>h (h2.2.2 k hlt)
     have HST:Hid (a2R L.length F k hlt -> ∀j (h:j<F.length),j<k+1->a2R L.length F j h):=h_ fun h j hj hjk=>by
      by_cases e:j=k
      ·subst e;exact h
      ·exact HR.out j hj (by omega)
     have HAT:Hid (a2R L.length F k hlt↔exB F[k] L.length=true /\ ∀p (hp:p<k) (hp2:p<F.length),F[p] ≠ F[k]):=h_ ⟨fun h=>⟨h.1,fun p hp _=>h.2 p hp⟩,fun h=>⟨h.1,fun p hp=>h.2 p hp (by omega)⟩⟩
     generalize a2R L.length F k hlt=CA at HNK HST HAT
     generalize F[k]=kv at HKC HEC HAT
     generalize exB kv L.length=bx at HEC HAT
     go_upto_region 8 with(fail)
     clear u0
     refine Gr.f_ 7 (by kernel_rfl) (by kernel_rfl) (fun w'=>Below wr.heap.size wr w') ⟨rfl,rfl,rfl,Nat.le_refl _,fun _ _=>rfl⟩ ?_
     simp only[List.take_succ_cons,List.take_zero,List.drop_succ_cons,List.drop_zero]
     refine Gr.sn _ (by go_simp;intro w' hw';have t0:=(HAr.out.below hw').cell 0 rfl;have t1:=(HAr.out.below hw').cell 1 rfl;have t2:=(HAr.out.below hw').cell 2 rfl;have t3:=(HAr.out.below hw').cell 3 rfl;have t4:=(HAr.out.below hw').cell 4 rfl;go_simp;rw[Gr.a_]) fun K hK=>?_;go_simp;refine hK _ ?_;clear hK K
     refine Gr.sn _ (by go_simp;intro w' hw';go_simp;rw[Gr.a_]) fun K hK=>?_;go_simp;refine hK _ ?_;clear hK K
     refine Gr.sn _ (by go_simp;intro w' hw';have u0:=(HBr.out.below hw').cell 0 rfl;go_simp;rw[Gr.a_]) fun K hK=>?_;go_simp;refine hK _ ?_;clear hK K
     iterate 2
      refine Gr.sn _ (by go_simp;intro w' hw';go_simp;rw[Gr.a_]) fun K hK=>?_;go_simp;refine hK _ ?_;clear hK K
     refine Gr.sn _ (by go_simp;intro w' hw';have e0:=HKC.out.at0 (HWr.out.trans (hw'.mono HWr.out.size)) rfl;go_simp;rw[Gr.a_]) fun K hK=>?_;go_simp;refine hK _ ?_;clear hK K
     refine Gr.sn (.bool bx) (by go_simp;intro w' hw';go_simp;rw[Gr.b_];exact Ret.fam (HEC.out w') hw') fun K hK=>?_;go_simp;refine hK _ ?_;clear hK K
     refine Gr.o_ fun w4 hw4=>?_
     have HA4:=h_ (HAr.out.below hw4)
     have HB4:=h_ (HBr.out.below hw4)
     have HW4:=t_ HWr hw4
     have HBB4:=t_ HBB hw4
     clear hw4 HEC HAr HBr HWr HBB
     cases bx with
     |false=>
      have HNO:=h_ (HNK.out fun h=>by have:=(HAT.out.1 h).1;cases this)
      go_wp2_with fail
      go_ret
      exact⟨25,rfl,no_ (by decide) HNO.out,HW4.out⟩
     |true=>
      go_upto_region 11 with(fail)
      go_loopw [6] (fun j wi=>∃q:Nat,q<=k/\j=.int .i64 (q:Int)/\Hid (∀p (hp:p<q) (hp2:p<F.length),F[p] ≠ kv)/\Below w4.heap.size w4 wi) (fun j _=>k - (intOf j).toNat)
      case atStart=>exact⟨0,Nat.zero_le _,rfl,h_ (fun p hp _=>absurd hp (by omega)),Below.refl _ _⟩
      case round=>
       obtain⟨q,hq,rfl,HQ,hb⟩:=hrel
       have HA5:=h_ (HA4.out.below hb)
       have HB5:=h_ (HB4.out.below hb)
       have HBI:=h_ hb
       have HW5:=t_ HW4 hb
       have HBB5:=t_ HBB4 hb
       clear hb
       by_cases hlq:q<k
       ·have q1:(q:Int)<(k:Int):=by omega
        have q2:(q:Int)<(F.length:Int):=by omega
        have q0:(0:Int)<=(q:Int):=by omega
        have HKD:Hid (∃v,v=F[q]'(by omega)/\EC w gk (ok+q) [.int .i64 v]):=h_ (by
         obtain⟨g2,o2,e2,hx2,hec2⟩:=HI.out.at_ (k:=q) (by omega)
         cases e2
         exact⟨_,rfl,by simpa using hec2⟩)
        obtain⟨kw,hkv,hkd⟩:=HKD.out
        have HKV:=h_ hkv
        clear hkv
        have HKD:=h_ hkd
        clear hkd
        go_upto_region 13 with(fail)
        refine Gr.f_ 10 (by kernel_rfl) (by kernel_rfl) (fun w'=>Below wr.heap.size wr w') ⟨rfl,rfl,rfl,Nat.le_refl _,fun _ _=>rfl⟩ ?_
        simp only[List.take_succ_cons,List.take_zero,List.drop_succ_cons,List.drop_zero]
        refine Gr.sn _ (by go_simp;intro w' hw';go_simp;rw[Gr.a_]) fun K hK=>?_;go_simp;refine hK _ ?_;clear hK K
        refine Gr.sn _ (by go_simp;intro w' hw';have u0:=(HB5.out.below hw').cell 0 rfl;go_simp;rw[Gr.a_]) fun K hK=>?_;go_simp;refine hK _ ?_;clear hK K
        iterate 2
         refine Gr.sn _ (by go_simp;intro w' hw';go_simp;rw[Gr.a_]) fun K hK=>?_;go_simp;refine hK _ ?_;clear hK K
        refine Gr.sn _ (by go_simp;intro w' hw';have e1:=HKD.out.at0 (HW5.out.trans (hw'.mono HW5.out.size)) rfl;go_simp;rw[Gr.a_]) fun K hK=>?_;go_simp;refine hK _ ?_;clear hK K
        refine Gr.sn _ (by go_simp;intro w' hw';go_simp;rw[Gr.a_]) fun K hK=>?_;go_simp;refine hK _ ?_;clear hK K
        refine Gr.sn _ (by go_simp;intro w' hw';have u0:=(HB5.out.below hw').cell 0 rfl;go_simp;rw[Gr.a_]) fun K hK=>?_;go_simp;refine hK _ ?_;clear hK K
        iterate 2
         refine Gr.sn _ (by go_simp;intro w' hw';go_simp;rw[Gr.a_]) fun K hK=>?_;go_simp;refine hK _ ?_;clear hK K
        refine Gr.sn _ (by go_simp;intro w' hw';have e0:=HKC.out.at0 (HW5.out.trans (hw'.mono HW5.out.size)) rfl;go_simp;rw[Gr.a_]) fun K hK=>?_;go_simp;refine hK _ ?_;clear hK K
        refine Gr.o_ fun w6 hw6=>?_
        have HW6:=t_ HW5 hw6
        have HBI6:=t_ HBI hw6
        clear hw6
        by_cases he:kw=kv
        ·have HNO:=h_ (HNK.out fun h=>(HAT.out.1 h).2 q hlq (by omega) (by rw[<-HKV.out];exact he))
         have d1:(kw==kv)=true:=by simp[he]
         go_wp2_with fail
         go_ret
         exact⟨25,rfl,no_ (by decide) HNO.out,HW6.out⟩
        ·have HQN:Hid (∀p (hp:p<q+1) (hp2:p<F.length),F[p] ≠ kv):=h_ fun p hp hp2=>by
          by_cases e:p=q
          ·subst e;rw[<-HKV.out];exact he
          ·exact HQ.out p (by omega) hp2
         have d1:(kw==kv)=false:=by simp[he]
         go_wp2_with fail
         go_roundw
         case rel=>exact⟨q+1,by omega,by go_num,HQN,HBI6.out⟩
         case measure=>simp[intOf];omega
       ·obtain rfl:q=k:=by omega
        have HN:=h_ (HST.out (HAT.out.2 ⟨by simp,HQ.out⟩))
        have d1:decide ((q:Int)<(q:Int))=false:=decide_eq_false (by omega)
        go_wp2_with fail
        go_roundw
        case rel=>exact⟨q+1,by omega,by go_num,HN,HBB5.out⟩
        case measure=>simp[intOf];omega
    ·obtain rfl:k=F.length:=by omega
     have d1:decide ((F.length:Int)<(F.length:Int))=false:=decide_eq_false (by omega)
     go_wp2_with fail
     go_ret
     exact⟨0,rfl,b1u ⟨HNB.out,HN0.out,fun j h=>HR.out j h h⟩,HWr.out⟩
theorem a5c(L:List Col)(Fs:List Fkey)(Cs:List X)(tn:S)(a a2 a3 a4:Option Addr)(m n2 m2 m3 m4:Nat)(w:World)(hL:L.length<=1000000)(hfl:∀f∈Fs,f.cols.length<=1099511627776)(hcs:∀x∈Cs,nodes x<=1000000/\D_ x)(hl:CL w L (.slice a L.length m))(hf:FL w Fs (.slice a3 Fs.length m3))(hx:XL w Cs (.slice a4 Cs.length m4)):Calls Tryz.prog 133 #[.agg #[.string ⟨tn.toArray⟩,.slice a L.length m,.slice a2 n2 m2,.slice a3 Fs.length m3,.slice a4 Cs.length m4]] w (a1J w (a0T L.length Fs/\a3d (y_ L) Cs)):=by
 have HL:=h_ hl
 have HF:=h_ hf
 have HX:=h_ hx
 have HFL:=h_ hfl
 have HCS:=h_ hcs
 clear hl hf hx hfl hcs
 go_enter Tryz.func133,Tryz.ntmps133
 go_upto_region 1 with(fail)
 refine nA fun w1 hB0 hw1 hz1=>?_
 have HB0:=h_ hB0
 have HW1:=h_ hw1
 have p3:=hB0.cell 3 rfl
 clear hB0 hw1 hz1
 by_cases h4:(4:Int)<(Fs.length:Int)
 ·have HNO:Hid (¬(a0T L.length Fs/\a3d (y_ L) Cs)):=h_ fun h=>by have:=h.1.1;omega
  go_wp2_with fail
  go_ret
  exact⟨5,rfl,no_ (by decide) HNO.out,HW1.out⟩
 ·have HF4:Hid (Fs.length<=4):=h_ (by omega)
  go_upto_region 4 with(fail)
  go_loopw [3,4] (fun i _ wr=>∃k:Nat,k<=Fs.length/\i=.int .i64 (k:Int)/\Hid (∀j (h:j<Fs.length),j<k->a2h L.length Fs[j].cols Fs[j].tb)/\Below w1.heap.size w1 wr) (fun i _ _=>Fs.length - (intOf i).toNat)
  case atStart=>exact⟨0,Nat.zero_le _,rfl,h_ (fun j h hj=>absurd hj (by omega)),Below.refl _ _⟩
  case round=>
   obtain⟨k,hkk,rfl,HR,hb⟩:=hrel
   have HBr:=h_ (HB0.out.below hb)
   have HBB:=h_ hb
   have HWr:=t_ HW1 hb
   clear hb p3
   have p3:=HBr.out.cell 3 rfl
   by_cases hlt:k<Fs.length
   ·have k1:(k:Int)<(Fs.length:Int):=by omega
    have k0:(0:Int)<=(k:Int):=by omega
    obtain⟨g,o,eq,hxx,b,c,hec,hil⟩:=HF.out.at_ hlt
    subst eq
    have c0:=hec.at0 HWr.out rfl
    have c1:=hec.at_ HWr.out (j:=1) rfl
    have HFC:Hid (∀w',Below w.heap.size w w'->Calls Tryz.prog 211 #[.agg #[.string ⟨tn.toArray⟩,.slice a L.length m,.slice a2 n2 m2,.slice (some ⟨g,o,none⟩) Fs.length m3,.slice a4 Cs.length m4],.agg #[.slice b Fs[k].cols.length c,.string ⟨Fs[k].tb.toArray⟩]] w' (a1J w' (a2h L.length Fs[k].cols Fs[k].tb))):=h_ fun w' hw'=>a8i L Fs[k].cols tn Fs[k].tb a a2 _ a4 b m n2 m2 _ m3 _ m4 c w' (HFL.out _ (List.getElem_mem _)) (hil.kept hw' (Nat.le_refl _))
    clear hec hil
    have HNK:Hid (¬a2h L.length Fs[k].cols Fs[k].tb -> ¬(a0T L.length Fs/\a3d (y_ L) Cs)):=h_ fun h h2=>h (h2.1.2 _ (List.getElem_mem hxx))
    have HST:Hid (a2h L.length Fs[k].cols Fs[k].tb -> ∀j (h:j<Fs.length),j<k+1->a2h L.length Fs[j].cols Fs[j].tb):=h_ fun h j hj hjk=>by
     by_cases e:j=k
     ·subst e;exact h
     ·exact HR.out j hj (by omega)
    generalize a2h L.length Fs[k].cols Fs[k].tb=FO at HFC HNK HST
    generalize Fs[k].cols.length=fl at c0 HFC
    generalize Fs[k].tb=tb at c1 HFC
    have t0:=HBr.out.cell 0 rfl
    have t1:=HBr.out.cell 1 rfl
    have t2:=HBr.out.cell 2 rfl
    have t4:=HBr.out.cell 4 rfl
    have hgd:Below w.heap.size w wr.drew:=Y_ HWr.out
    go_upto_region 6 with(fail)
    go_region_law (go_simp;go_at_call 211;refine(HFC.out wr.drew hgd).mono ?_;rintro e w8 ⟨q,rfl,hqi,hw8⟩;have hb8:Below wr.heap.size wr w8:=N_ hw8)
    all_goals
     have HW8:=t_ HWr hb8
     have HBB8:=t_ HBB hb8
     have HQI:=h_ hqi
     clear hb8 hw8 hgd t0 t1 t2 t4 c0 c1 p3 hqi
     by_cases hq:q=0
     ·have HN:=h_ (HST.out (HQI.out.1 hq))
      subst hq
      clear HQI
      go_wp2_with fail
      go_roundw
      case rel=>exact⟨k+1,by omega,by go_num,HN,HBB8.out⟩
      case measure=>simp[intOf];omega
     ·have dq:(q != 0)=true:=by simp[hq]
      have HNO:=h_ (HNK.out fun h=>hq (HQI.out.2 h))
      have HQN:=h_ hq
      clear HQI
      go_wp2_with fail
      go_ret
      exact⟨q,rfl,no_ HQN.out HNO.out,HW8.out⟩
   ·obtain rfl:k=Fs.length:=by omega
    have d1:decide ((Fs.length:Int)<(Fs.length:Int))=false:=decide_eq_false (by omega)
    have p4:=HBr.out.cell 4 rfl
    have HFO:Hid (a0T L.length Fs):=h_ ⟨HF4.out,fun f hf=>by
     obtain⟨i,hi,rfl⟩:=List.getElem_of_mem hf
     exact HR.out i hi hi⟩
    by_cases hc4:(4:Int)<(Cs.length:Int)
    ·have HNO:Hid (¬(a0T L.length Fs/\a3d (y_ L) Cs)):=h_ fun h=>by have:=h.2.1;omega
     go_wp2_with fail
     go_ret
     exact⟨5,rfl,no_ (by decide) HNO.out,HWr.out⟩
    ·have HC4:Hid (Cs.length<=4):=h_ (by omega)
     go_upto_region 12 with(fail)
     go_loopw [5,6,7] (fun i _ _ ws=>∃k:Nat,k<=Cs.length/\i=.int .i64 (k:Int)/\Hid (∀j (h:j<Cs.length),j<k->a3p (y_ L) Cs[j])/\Below wr.heap.size wr ws) (fun i _ _ _=>Cs.length - (intOf i).toNat)
     case atStart=>exact⟨0,Nat.zero_le _,rfl,h_ (fun j h hj=>absurd hj (by omega)),Below.refl _ _⟩
     case round=>
      obtain⟨k,hkk2,rfl,HRC,hb⟩:=hrel
      have HBs:=h_ (HBr.out.below hb)
      have HSS:=h_ hb
      have HWs:=t_ HWr hb
      clear hb p3 p4
      have p4:=HBs.out.cell 4 rfl
      by_cases hlt2:k<Cs.length
      ·have k1:(k:Int)<(Cs.length:Int):=by omega
       have k0:(0:Int)<=(k:Int):=by omega
       obtain⟨g,o,us,eq,hgl,hcell,hxx,hxr⟩:=HX.out.at_ hlt2
       subst eq
       have hnx:=HCS.out _ (List.getElem_mem hxx)
       have HKC:Hid (EC w g (o+k*7) us):=h_ ⟨hgl,hcell⟩
       have HCH:Hid (∀w8 g8 c8 b8,Below w.heap.size w w8->a0v b8 (.slice (some ⟨g8,0,none⟩) L.length c8) (y_ L) w8->Calls Tryz.prog 212 #[.agg us.toArray,.slice (some ⟨g8,0,none⟩) L.length c8] w8 (Ret w8 (a2m (chk (y_ L) Cs[k])))):=h_ fun w8 g8 c8 b8 hw8 ho=>by
        have h9:=b3Z Cs[k] us w8 (y_ L) (some ⟨g8,0,none⟩) c8 hnx.1 hnx.2 (by rw[a0Z];exact hL) (by obtain⟨a',c',e,h⟩:=ho.form;injection e with e1 e2 e3;subst e1;exact h) (hxr.kept hw8 (Nat.le_refl _))
        rw[a0Z] at h9
        exact h9
       clear hcell hnx
       have HNK:Hid (¬a3p (y_ L) Cs[k] -> ¬(a0T L.length Fs/\a3d (y_ L) Cs)):=h_ fun h h2=>h (h2.2.2 _ (List.getElem_mem hxx))
       have HST:Hid (a3p (y_ L) Cs[k] -> ∀j (h:j<Cs.length),j<k+1->a3p (y_ L) Cs[j]):=h_ fun h j hj hjk=>by
        by_cases e:j=k
        ·subst e;exact h
        ·exact HRC.out j hj (by omega)
       have HAT:Hid (a3p (y_ L) Cs[k]↔(chk (y_ L) Cs[k]).2=0/\((chk (y_ L) Cs[k]).1=3\/(chk (y_ L) Cs[k]).1=0)):=h_ Iff.rfl
       generalize a3p (y_ L) Cs[k]=CO at HNK HST HAT
       generalize Cs[k]=x at hxr HCH HAT
       generalize chk (y_ L) x=R at HCH HAT
       obtain⟨R1,R2⟩:=R
       obtain⟨op,int,vk,vi,vs,nm,l⟩:=x
       obtain⟨ax,mx,rfl,_⟩:=hxr.lits
       clear hxr hgl
       obtain⟨e0,e1,e2,e3,e4,e5,e6⟩:=HKC.out.c7 HWs.out
       have t0:=HBs.out.cell 0 rfl
       have t1:=HBs.out.cell 1 rfl
       have t2:=HBs.out.cell 2 rfl
       have t3:=HBs.out.cell 3 rfl
       have hgd:Below w.heap.size w wr.drew:=Y_ HWs.out
       unfold a2m at HCH
       go_upto_region 14 with(fail)
       go_region_law (first|(go_simp;go_at_call 213;refine(b1o L tn a m _ _ _ wr.drew hL (HL.out.kept hgd (Nat.le_refl _))).mono ?_;rintro e w8 ⟨g8,c8,rfl,ho8,hw8⟩;have hb8:Below wr.heap.size wr w8:=N_ hw8;have hq8:=HBs.out.below hb8;have p4:=hq8.cell 4 rfl;have hy8:=HWs.out.trans (hb8.mono HWs.out.size);have HC8:=HCH.out w8 g8 c8 _ hy8 ho8;have e0:=HKC.out.at0 hy8 rfl;have e1:=HKC.out.at_ hy8 (j:=1) rfl;have e2:=HKC.out.at_ hy8 (j:=2) rfl;have e3:=HKC.out.at_ hy8 (j:=3) rfl;have e4:=HKC.out.at_ hy8 (j:=4) rfl;have e5:=HKC.out.at_ hy8 (j:=5) rfl;have e6:=HKC.out.at_ hy8 (j:=6) rfl;clear hq8 hw8 ho8)|(go_simp;go_at_call 212;refine HC8.mono ?_;intro e w9 hp;obtain⟨hp,hw9⟩:=hp;obtain rfl:=hp))
       all_goals
        have HW9:=h_ (hy8.trans (hw9.mono hy8.size))
        have HSS9:=h_ ((HSS.out.trans (hb8.mono HSS.out.size)).trans (hw9.mono (Nat.le_trans HSS.out.size hb8.size)))
        clear hb8 hw9 hy8 hgd HC8 t0 t1 t2 t3 e0 e1 e2 e3 e4 e5 e6 p4
        by_cases hq:R2=0
        ·have HZ:=h_ hq
         by_cases r3:R1=3
         ·have HN:=h_ (HST.out (HAT.out.2 ⟨hq,.inl r3⟩))
          subst r3 hq
          clear HAT
          go_wp2_with fail
          go_roundw
          case rel=>exact⟨k+1,by omega,by go_num,HN,HSS9.out⟩
          case measure=>simp[intOf];omega
         ·have d3:(R1 != 3)=true:=by simp[r3]
          by_cases r0:R1=0
          ·have HN:=h_ (HST.out (HAT.out.2 ⟨hq,.inr r0⟩))
           subst r0 hq
           clear HAT
           go_wp2_with fail
           go_roundw
           case rel=>exact⟨k+1,by omega,by go_num,HN,HSS9.out⟩
           case measure=>simp[intOf];omega
          ·have d0:(R1 != 0)=true:=by simp[r0]
           have HNO:=h_ (HNK.out fun h=>by rcases(HAT.out.1 h).2 with e|e<;>omega)
           subst hq
           clear HAT
           go_wp2_with fail
           go_ret
           exact⟨7,rfl,no_ (by decide) HNO.out,HW9.out⟩
        ·have dq:(R2 != 0)=true:=by simp[hq]
         have HNO:=h_ (HNK.out fun h=>hq (HAT.out.1 h).1)
         have HQN:=h_ hq
         clear HAT
         go_wp2_with fail
         go_ret
         exact⟨R2,rfl,no_ HQN.out HNO.out,HW9.out⟩
      ·obtain rfl:k=Cs.length:=by omega
       have d1:decide ((Cs.length:Int)<(Cs.length:Int))=false:=decide_eq_false (by omega)
       go_wp2_with fail
       go_ret
       exact⟨0,rfl,b1u ⟨HFO.out,HC4.out,fun x hx=>by
        obtain⟨i,hi,rfl⟩:=List.getElem_of_mem hx
        exact HRC.out i hi hi⟩,HWs.out⟩
theorem b0v(L:List Col)(Ks:List Int)(Fs:List Fkey)(Cs:List X)(tn:S)(a a2 a3 a4:Option Addr)(m m2 m3 m4:Nat)(w:World)(hL:L.length<=1000000)(hK:Ks.length<=1099511627776)(hfl:∀f∈Fs,f.cols.length<=1099511627776)(hcs:∀x∈Cs,nodes x<=1000000/\D_ x)(hl:CL w L (.slice a L.length m))(hi:IL w Ks (.slice a2 Ks.length m2))(hf:FL w Fs (.slice a3 Fs.length m3))(hx:XL w Cs (.slice a4 Cs.length m4)):Calls Tryz.prog 56 #[.agg #[.string ⟨tn.toArray⟩,.slice a L.length m,.slice a2 Ks.length m2,.slice a3 Fs.length m3,.slice a4 Cs.length m4]] w (a1J w (a1D ⟨tn,L,Ks,Fs,Cs⟩)):=by
 have HC:=h_ fun(w':World) (hw':Below w.heap.size w w')=>a8g L tn a a2 a3 a4 m Ks.length m2 Fs.length m3 Cs.length m4 w' hL (hl.kept hw' (Nat.le_refl _))
 have HK:=h_ fun(w':World) (hw':Below w.heap.size w w')=>b2M L Ks tn a a2 a3 a4 m m2 Fs.length m3 Cs.length m4 w' hL hK (hl.kept hw' (Nat.le_refl _)) (hi.kept hw' (Nat.le_refl _))
 have HT:=h_ fun(w':World) (hw':Below w.heap.size w w')=>a5c L Fs Cs tn a a2 a3 a4 m Ks.length m2 m3 m4 w' hL hfl hcs (hl.kept hw' (Nat.le_refl _)) (hf.kept hw' (Nat.le_refl _)) (hx.kept hw' (Nat.le_refl _))
 clear hL hK hfl hcs hl hi hf hx
 go_enter Tryz.func56,Tryz.ntmps56
 go_upto_region 1 with(fail)
 refine nA fun w1 hB0 hw1 hz1=>?_
 have HB1:=h_ hB0
 have HW1:=h_ hw1
 have p0:=hB0.cell 0 rfl
 clear hB0 hw1 hz1
 go_wp2_with fail
 refine(a1H tn w1).mono ?_
 rintro e w2 ⟨rfl,hw2⟩
 have HB2:=h_ (HB1.out.below hw2)
 have HW2:=t_ HW1 hw2
 clear hw2 HB1 HW1 p0
 cases hnb:nameB tn with
 |false=>
  have HNO:Hid (¬(a1D ⟨tn,L,Ks,Fs,Cs⟩)):=h_ fun h=>by have h1:nameB tn=true:=h.1;rw[hnb] at h1;cases h1
  go_wp2_with fail
  go_ret
  exact⟨1,rfl,no_ (by decide) HNO.out,HW2.out⟩
 |true=>
  have HC2:=h_ (HC.out w2 HW2.out)
  have HNB:=h_ hnb
  clear hnb
  obtain⟨p0,p1,p2,p3,p4⟩:=HB2.out.c5
  go_wp2_with fail
  refine HC2.out.mono ?_
  rintro e w3 ⟨q,rfl,hq0,hw3⟩
  have HD:=h_ hq0
  have HB3:=h_ (HB2.out.below hw3)
  have HW3:=t_ HW2 hw3
  clear hw3 HB2 HW2 p0 p1 p2 p3 p4 HC2 hq0
  by_cases hq:q=0
  ·have HDD:=h_ (HD.out.1 hq)
   have HK3:=h_ (HK.out w3 HW3.out)
   subst hq
   clear HD
   obtain⟨p0,p1,p2,p3,p4⟩:=HB3.out.c5
   go_wp2_with fail
   refine HK3.out.mono ?_
   rintro e w4 ⟨q,rfl,hk4,hw4⟩
   have HK4:=h_ hk4
   clear hk4
   have HB4:=h_ (HB3.out.below hw4)
   have HW4:=t_ HW3 hw4
   clear hw4 HB3 HW3 p0 p1 p2 p3 p4 HK3
   by_cases hq:q=0
   ·have HKK:=h_ (HK4.out.1 hq)
    subst hq
    clear HK4
    have HT4:=h_ (HT.out w4 HW4.out)
    obtain⟨p0,p1,p2,p3,p4⟩:=HB4.out.c5
    go_wp2_with fail
    refine HT4.out.mono ?_
    rintro e w5 ⟨q,rfl,ht5,hw5⟩
    have HT5:=h_ ht5
    clear ht5
    have HW5:=t_ HW4 hw5
    clear hw5 p0 p1 p2 p3 p4
    go_wp2_with fail
    go_ret
    exact⟨q,rfl,⟨fun h=>⟨HNB.out,HDD.out,HKK.out,HT5.out.1 h⟩,fun h=>HT5.out.2 h.2.2.2⟩,HW5.out⟩
   ·have dq:(q==0)=false:=by simp[hq]
    have HNO:Hid (¬(a1D ⟨tn,L,Ks,Fs,Cs⟩)):=h_ fun h=>hq (HK4.out.2 h.2.2.1)
    have HQ:=h_ hq
    clear HK4
    go_wp2_with fail
    go_ret
    exact⟨q,rfl,no_ HQ.out HNO.out,HW4.out⟩
  ·have dq:(q==0)=false:=by simp[hq]
   have HQ:=h_ hq
   have HNO:Hid (¬(a1D ⟨tn,L,Ks,Fs,Cs⟩)):=h_ fun h=>hq (HD.out.2 h.2.1)
   clear HD
   go_wp2_with fail
   go_ret
   exact⟨q,rfl,no_ HQ.out HNO.out,HW3.out⟩
end Go.Proofs.YtlimlmjljjmcpaaGreatDoor.Px
