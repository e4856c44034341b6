import Derived.Test.YtlimlmjljjmcpaaGreatDoorTsX
import Derived.Test.YtlimlmjljjmcpaaGreatDoorBdA
import Derived.Test.YtlimlmjljjmcpaaGreatDoorPxC
import Derived.Test.YtlimlmjljjmcpaaGreatDoorPxLaw
set_option maxHeartbeats 16000000
set_option maxRecDepth 100000
namespace Go.Proofs.YtlimlmjljjmcpaaGreatDoor.Px
open Go Go.RowKit Go.Proofs.YtlimlmjljjmcpaaGreatDoor.Ps
set_option linter.unusedVariables false
set_option linter.unusedSimpArgs false
theorem b1T(L:List Col)(K:List Int)(tn:S)(a a2 a3 a4 ak:Option Addr)(m n2 m2 n3 m3 n4 m4 mk:Nat)(w:World)(hK:Cis L.length K)(hd:Distinct L)(hn:L.length<=12)(hl:CL w L (.slice a L.length m))(hk:IL w K (.slice ak K.length mk)):Calls Tryz.prog 185 #[.agg #[.string ⟨tn.toArray⟩,.slice a L.length m,.slice a2 n2 m2,.slice a3 n3 m3,.slice a4 n4 m4],.slice ak K.length mk] w (Ret w (.bool true)):=by
 have HL:=h_ hl
 have HKL:=h_ hk
 have HD:=h_ hd
 have HKX:=h_ hK.2.2
 have hk0:0<K.length:=Nat.pos_of_ne_zero hK.1
 have hk12:=hK.2.1
 clear hl hk hd hK
 go_enter Tryz.func185,Tryz.ntmps185
 go_upto_region 1 with(fail)
 refine nA fun w1 hB hw1 hz1=>?_
 have HB:=h_ hB
 have HW:=h_ hw1
 clear hB hw1 hz1
 go_wp2_with fail
 go_loopw [6,9] (fun _ i wr=>∃k:Nat,k<=K.length/\i=.int .i64 (k:Int)/\Below w1.heap.size w1 wr) (fun _ i _=>K.length - (intOf i).toNat)
 case atStart=>exact⟨0,Nat.zero_le _,rfl,Below.refl _ _⟩
 case round=>
  obtain⟨k,hk2,rfl,hb⟩:=hrel
  have HBr:=h_ (HB.out.below hb)
  have HBB:=h_ hb
  have HWr:=t_ HW hb
  clear hb
  by_cases hlt:k<K.length
  ·have k1:(k:Int)<(K.length:Int):=by omega
   have k0:(0:Int)<=(k:Int):=by omega
   obtain⟨gk,ok,eq,hx,hec⟩:=HKL.out.at_ hlt
   subst eq
   have hex:=a3P.1 (HKX.out _ (List.getElem_mem hx))
   obtain⟨gl,ol,eq2,hx2,hc⟩:=HL.out.at_ (k:=K[k].toNat) (by omega)
   subst eq2
   have hfd:a1A L L[K[k].toNat].nm=K[k]:=by rw[a3c HD.out hx2];omega
   have e0:=hec.at0 HWr.out rfl
   have c0:=hc.at0 HWr.out rfl
   have lk:gk<wr.heap.size:=Nat.lt_of_lt_of_le hec.1 HWr.out.size
   have ll:gl<wr.heap.size:=Nat.lt_of_lt_of_le hc.1 HWr.out.size
   have HFC:Hid (∀w',Below wr.heap.size wr w'->Calls Tryz.prog 260 #[.agg #[.string ⟨tn.toArray⟩,.slice (some ⟨gl,ol,none⟩) L.length m,.slice a2 n2 m2,.slice a3 n3 m3,.slice a4 n4 m4],.string ⟨L[K[k].toNat].nm.toArray⟩] w' (Ret w' (.int .i64 K[k]))):=h_ fun w' hw'=>by
    have:=b4O L L[K[k].toNat].nm tn (some ⟨gl,ol,none⟩) m (.slice a2 n2 m2) (.slice a3 n3 m3) (.slice a4 n4 m4) w' (by omega) (HL.out.kept (HWr.out.trans (hw'.mono HWr.out.size)) (Nat.le_refl _))
    rw[hfd] at this
    exact this
   clear hfd hec hc
   generalize L[K[k].toNat].nm=nm at c0 HFC
   generalize K[k]=kv at e0 c0 HFC hex hx2
   obtain⟨q0,q1⟩:=hex
   have hbne:(kv != kv)=false:=by simp
   have g1:decide (kv<0)=false:=decide_eq_false (by omega)
   have g2:decide ((L.length:Int)<=kv)=false:=decide_eq_false (by omega)
   have lw:w.heap.size<wr.heap.size:=HBr.out.lt
   obtain⟨t0,t1,t2,t3,t4⟩:=HBr.out.c5
   simp only[Nat.mul_one] at e0
   clear hx2
   go_upto_region 4 with(fail)
   go_region_law (go_simp;go_at_call 260;refine(HFC.out _ (Y_ (Below.refl _ _))).mono ?_;rintro e w4 ⟨rfl,hw4⟩;have HW4:Hid (Below wr.heap.size wr w4):=h_ (N_ hw4);clear hw4)
   all_goals
    have HB4:=h_ (HBB.out.trans (HW4.out.mono HBB.out.size))
    clear t0 t1 t2 t3 t4 e0 c0 HFC
    go_wp2_with fail
    go_roundw
    case rel=>exact⟨k+1,by omega,by go_num,HB4.out⟩
    case measure=>simp[intOf];omega
  ·obtain rfl:k=K.length:=by omega
   have d1:decide ((K.length:Int)<(K.length:Int))=false:=decide_eq_false (by omega)
   have d2:decide ((0:Int)<(K.length:Int))=true:=decide_eq_true (by omega)
   have d3:(0:Int)<(K.length:Int):=by omega
   go_wp2_with fail
   go_ret
   exact⟨rfl,HWr.out⟩
theorem b0e(L:List Col)(K:List Int)(Fs:List Fkey)(Xs:List X)(tn:S)(a a2 a3 ax:Option Addr)(m m2 m3 mx:Nat)(w:World)(hE:Env w)(hN:nameB tn=true)(hC:a0f L)(hK:a2F L K)(hF:a0T L.length Fs)(hX:∀x∈Xs,nodes x<=1000000/\D_ x)(hXl:Xs.length<=4)(h1:CL w L (.slice a L.length m))(h2:IL w K (.slice a2 K.length m2))(h3:FL w Fs (.slice a3 Fs.length m3))(h4:XL w Xs (.slice ax Xs.length mx)):Calls Tryz.prog 106 #[.agg #[.string ⟨tn.toArray⟩,.slice a L.length m,.slice a2 K.length m2,.slice a3 Fs.length m3,.slice none 0 0],.slice ax Xs.length mx] w (Ret w (.bool (Xs.all pOk))):=by
 have H1:=h_ h1
 have H2:=h_ h2
 have H3:=h_ h3
 have H4:=h_ h4
 have HCO:=h_ hC
 have HLN:=hC.1
 have hFN:=hF.1
 have HKC:=h_ (a5J hC.1.2 hK)
 have HFO:=h_ hF
 have HXX:=h_ hX
 have HI:Hid (∀(s:S) (w':World),nameB s=true->Below w.heap.size w w'->Calls Tryz.prog 61 #[.string ⟨s.toArray⟩] w' (Ret w' (.bool true))):=h_ fun s w' hs hw'=>by
  have:=a0N (s:=s) (hE.below hw')
  rw[hs] at this
  exact this
 have HNK:Hid (∀(w':World) (J:List Int) (aj:Option Addr) (mj:Nat),Cis L.length J->IL w J (.slice aj J.length mj)->Below w.heap.size w w'->Calls Tryz.prog 185 #[.agg #[.string ⟨tn.toArray⟩,.slice a L.length m,.slice a2 K.length m2,.slice a3 Fs.length m3,.slice none 0 0],.slice aj J.length mj] w' (Ret w' (.bool true))):=h_ fun w' J aj mj hJ hj hw'=>b1T L J tn a a2 a3 none aj m K.length m2 Fs.length m3 0 0 mj w' hJ HCO.out.2.2 HLN.2 (H1.out.kept hw' (Nat.le_refl _)) (hj.kept hw' (Nat.le_refl _))
 have HCK:Hid (∀(w':World) (c:Col),a1C c->Below w.heap.size w w'->Calls Tryz.prog 184 #[.agg #[.string ⟨c.nm.toArray⟩,.int .i64 c.kind,.bool c.nul]] w' (Ret w' (.bool true))):=h_ fun w' c hc hw'=>b0m c w' (hE.below hw') hc
 have HPR:Hid (∀(w':World) (x:X) (cs:List Value),x∈Xs->XR w x cs->Below w.heap.size w w'->Calls Tryz.prog 25 #[.agg cs.toArray] w' (Ret w' (.bool (pOk x)))):=h_ fun w' x cs hx hr hw'=>a4u 1000000 x cs w' (HXX.out x hx).1 (by decide) (HXX.out x hx).2 (hE.below hw') (hr.kept hw' (Nat.le_refl _))
 clear h1 h2 h3 h4 hC hK hF hX hE
 go_enter Tryz.func106,Tryz.ntmps106
 go_upto_region 1 with(fail)
 refine nA fun w1 hB hw1 hz1=>?_
 have HB:=h_ hB
 have HW:=h_ hw1
 have p0:=hB.cell 0 rfl
 clear hB hw1 hz1
 go_wp2_with fail
 refine(HI.out tn w1 hN HW.out).mono ?_
 rintro e w2 ⟨rfl,hw2⟩
 have HB2:=h_ (HB.out.below hw2)
 have HW2:=t_ HW hw2
 have p1:=HB2.out.cell 1 rfl
 have p4:=HB2.out.cell 4 rfl
 have d1:decide ((0:Int)<(L.length:Int))=true:=decide_eq_true (by omega)
 clear hw2 p0 hN
 go_upto_region 3 with(fail)
 clear p1 p4 d1
 go_loopw [5,30] (fun q i wr=>∃k:Nat,k<=L.length/\q=.bool true/\i=.int .i64 (k:Int)/\Below w2.heap.size w2 wr) (fun _ i _=>L.length - (intOf i).toNat)
 case atStart=>exact⟨0,Nat.zero_le _,rfl,rfl,Below.refl _ _⟩
 case round=>
  obtain⟨k,hk,rfl,rfl,hb⟩:=hrel
  have HBB:=h_ hb
  have HWr:=t_ HW2 hb
  have HBr:=h_ (HB2.out.below hb)
  clear hb
  by_cases hlt:k<L.length
  ·have k1:(k:Int)<(L.length:Int):=by omega
   have k0:(0:Int)<=(k:Int):=by omega
   obtain⟨g,o,eq,hx,hec⟩:=H1.out.at_ hlt
   subst eq
   have HC1:=h_ fun(w':World) (hw':Below wr.heap.size wr w')=>HCK.out w' L[k] (HCO.out.2.1 _ (List.getElem_mem hx)) (HWr.out.trans (hw'.mono HWr.out.size))
   generalize L[k]=c at hec HC1
   obtain⟨cnm,ckd,cnl⟩:=c
   dsimp only at hec HC1
   have c0:=hec.at0 HWr.out rfl
   have c1:=hec.at_ HWr.out (j:=1) rfl
   have c2:=hec.at_ HWr.out (j:=2) rfl
   have lg:g<wr.heap.size:=Nat.lt_of_lt_of_le hec.1 HWr.out.size
   clear hec
   go_wp2_with fail
   refine(HC1.out _ (d_ wr _)).mono ?_
   rintro e w4 ⟨rfl,hw4⟩
   have HB4:=h_ (HBB.out.trans (((d_ wr _).trans (hw4.mono (by simp))).mono HBB.out.size))
   clear hw4 c0 c1 c2 HC1
   go_wp2_with fail
   go_roundw
   case rel=>exact⟨k+1,by omega,rfl,by go_num,HB4.out⟩
   case measure=>simp[intOf];omega
  ·obtain rfl:k=L.length:=by omega
   have d1:decide ((L.length:Int)<(L.length:Int))=false:=decide_eq_false (by omega)
   obtain⟨q0,q1,q2,q3,q4⟩:=HBr.out.c5
   go_wp2_with fail
   refine(HNK.out wr K a2 m2 HKC.out H2.out HWr.out).mono ?_
   rintro e w5 ⟨rfl,hw5⟩
   have HB5:=h_ (HBr.out.below hw5)
   have HW5:=t_ HWr hw5
   have p3:=HB5.out.cell 3 rfl
   clear hw5 q0 q1 q2 q3 q4 HBB HBr HWr d1
   go_upto_region 9 with(fail)
   clear p3
   go_loopw [5,50] (fun q i wi=>∃j:Nat,j<=Fs.length/\q=.bool true/\i=.int .i64 (j:Int)/\Below w5.heap.size w5 wi) (fun _ i _=>Fs.length - (intOf i).toNat)
   case atStart=>exact⟨0,Nat.zero_le _,rfl,rfl,Below.refl _ _⟩
   case round=>
    obtain⟨j,hj,rfl,rfl,hb⟩:=hrel
    have HBB:=h_ hb
    have HWr:=t_ HW5 hb
    have HBr:=h_ (HB5.out.below hb)
    clear hb
    by_cases hlt2:j<Fs.length
    ·have k1:(j:Int)<(Fs.length:Int):=by omega
     have k0:(0:Int)<=(j:Int):=by omega
     obtain⟨g,o,eq,hx,fb,fc,hec,hil⟩:=H3.out.at_ hlt2
     subst eq
     have hfo:=HFO.out.2 _ (List.getElem_mem hx)
     have HN1:=h_ fun(w':World) (hw':Below wr.heap.size wr w')=>HI.out Fs[j].tb w' hfo.1 (HWr.out.trans (hw'.mono HWr.out.size))
     have HN2:=h_ fun(w':World) (hw':Below wr.heap.size wr w')=>HNK.out w' Fs[j].cols fb fc (a6u HLN.2 hfo) hil (HWr.out.trans (hw'.mono HWr.out.size))
     clear hfo hil
     generalize Fs[j].tb=ftb at hec HN1
     generalize Fs[j].cols=fcols at hec HN2
     have c0:=hec.at0 HWr.out rfl
     have c1:=hec.at_ HWr.out (j:=1) rfl
     have lg:g<wr.heap.size:=Nat.lt_of_lt_of_le hec.1 HWr.out.size
     clear hec
     go_upto_region 11 with(fail)
     refine nA fun w7 hV hw7 hz7=>?_
     have HV:=h_ hV
     have HW7:=h_ hw7
     have v1:=hV.cell 1 rfl
     have lv:=hV.lt
     clear hV hw7 hz7 c0 c1
     go_wp2_with fail
     refine(HN1.out _ HW7.out).mono ?_
     rintro e w8 ⟨rfl,hw8⟩
     have HW8:=t_ HW7 hw8
     have HV8:=h_ (HV.out.below hw8)
     have HB8:=h_ (HBr.out.below HW8.out)
     have v0:=HV8.out.cell 0 rfl
     obtain⟨q0,q1,q2,q3,q4⟩:=HB8.out.c5
     clear hw8 v1 lv
     go_wp2_with fail
     refine(HN2.out _ HW8.out).mono ?_
     rintro e w9 ⟨rfl,hw9⟩
     have HB9:=h_ (HBB.out.trans ((HW8.out.trans (hw9.mono HW8.out.size)).mono HBB.out.size))
     clear hw9 v0 q0 q1 q2 q3 q4 HN1 HN2
     go_wp2_with fail
     go_roundw
     case rel=>exact⟨j+1,by omega,rfl,by go_num,HB9.out⟩
     case measure=>simp[intOf];omega
    ·obtain rfl:j=Fs.length:=by omega
     have d2:decide ((Fs.length:Int)<(Fs.length:Int))=false:=decide_eq_false (by omega)
     obtain⟨w6,e6⟩:∃x,x=wr:=⟨_,rfl⟩
     subst e6
     go_upto_region 14 with(fail)
     go_loopw [5,69] (fun q i wi=>∃n:Nat,n<=Xs.length/\q=.bool ((Xs.take n).all pOk)/\i=.int .i64 (n:Int)/\Below w6.heap.size w6 wi) (fun _ i _=>Xs.length - (intOf i).toNat)
     case atStart=>exact⟨0,Nat.zero_le _,rfl,rfl,Below.refl _ _⟩
     case round=>
      obtain⟨n,hn,rfl,rfl,hb⟩:=hrel
      have HB7:=h_ hb
      have HWn:=t_ HWr hb
      clear hb
      by_cases hlt3:n<Xs.length
      ·have k1:(n:Int)<(Xs.length:Int):=by omega
       have k0:(0:Int)<=(n:Int):=by omega
       obtain⟨g,o,us,eq,hec,hkx,hrx⟩:=H4.out.ec hlt3
       subst eq
       have HT:Hid ((Xs.take (n+1)).all pOk=((Xs.take n).all pOk&&pOk Xs[n])):=h_ (by rw[List.take_succ_eq_append_getElem hkx,List.all_append];simp)
       have HP1:=h_ fun(w':World) (hw':Below wr.heap.size wr w')=>HPR.out w' Xs[n] us (List.getElem_mem hkx) hrx (HWn.out.trans (hw'.mono HWn.out.size))
       generalize HQ1:(Xs.take (n+1)).all pOk=q1 at HT
       generalize(Xs.take n).all pOk=q0 at HT
       generalize pOk Xs[n]=pb at HT HP1
       generalize Xs[n]=xk at hrx
       obtain⟨eop,eint,evk,evi,evs,enm,el⟩:=xk
       obtain⟨ea,em,rfl,_⟩:=hrx.lits
       obtain⟨c0,c1,c2,c3,c4,c5,c6⟩:=hec.c7 HWn.out
       have lg:g<wr.heap.size:=Nat.lt_of_lt_of_le hec.1 HWn.out.size
       clear hec hrx
       cases q0 with
       |true=>
        go_wp2_with fail
        refine(HP1.out _ (d_ wr _)).mono ?_
        rintro e w8 ⟨rfl,hw8⟩
        have HB8:=h_ (HB7.out.trans (((d_ wr _).trans (hw8.mono (by simp))).mono HB7.out.size))
        clear hw8 c0 c1 c2 c3 c4 c5 c6 HP1
        go_wp2_with fail
        go_roundw
        case rel=>exact⟨n+1,by omega,by rw[HQ1,HT.out];rfl,by go_num,HB8.out⟩
        case measure=>simp[intOf];omega
       |false=>
        have HB8:=h_ (HB7.out.trans ((d_ wr (.cells #[.int .i64 eop,.int .i64 eint,.int .i64 evk,.int .i64 evi,.string ⟨evs.toArray⟩,.string ⟨enm.toArray⟩,.slice ea el.length em] 26)).mono HB7.out.size))
        go_wp2_with fail
        go_roundw
        case rel=>exact⟨n+1,by omega,by rw[HQ1,HT.out];rfl,by go_num,HB8.out⟩
        case measure=>simp[intOf];omega
      ·obtain rfl:n=Xs.length:=by omega
       have d3:decide ((Xs.length:Int)<(Xs.length:Int))=false:=decide_eq_false (by omega)
       have HQ:=h_ (List.take_length (l:=Xs))
       generalize Xs.take Xs.length=Y at HQ |-
       have HY:Hid (Y.all pOk=Xs.all pOk):=h_ (by rw[HQ.out])
       generalize Y.all pOk=qa at HY |-
       go_wp2_with fail
       go_ret
       exact⟨by rw[<-HY.out];rfl,HWn.out⟩
theorem a6O(L:List Col)(K:List Int)(tn:S)(a a2 a3 a4 ak:Option Addr)(m n2 m2 n3 m3 n4 m4 mk:Nat)(w:World)(hK:Cis L.length K)(hd:Distinct L)(hn:L.length<=12)(hl:CL w L (.slice a L.length m))(hk:IL w K (.slice ak K.length mk)):Calls Tryz.prog 273 #[.agg #[.string ⟨tn.toArray⟩,.slice a L.length m,.slice a2 n2 m2,.slice a3 n3 m3,.slice a4 n4 m4],.slice ak K.length mk] w (Ret w (.bool true)):=by
 have HL:=h_ hl
 have HKL:=h_ hk
 have HD:=h_ hd
 have HKX:=h_ hK.2.2
 have hk0:0<K.length:=Nat.pos_of_ne_zero hK.1
 have hk12:=hK.2.1
 clear hl hk hd hK
 go_enter Tryz.func273,Tryz.ntmps273
 go_upto_region 1 with(fail)
 refine nA fun w1 hB hw1 hz1=>?_
 have HB:=h_ hB
 have HW:=h_ hw1
 clear hB hw1 hz1
 go_wp2_with fail
 go_loopw [5] (fun i wr=>∃k:Nat,k<=K.length/\i=.int .i64 (k:Int)/\Below w1.heap.size w1 wr) (fun i _=>K.length - (intOf i).toNat)
 case atStart=>exact⟨0,Nat.zero_le _,rfl,Below.refl _ _⟩
 case round=>
  obtain⟨k,hk2,rfl,hb⟩:=hrel
  have HBr:=h_ (HB.out.below hb)
  have HBB:=h_ hb
  have HWr:=t_ HW hb
  clear hb
  by_cases hlt:k<K.length
  ·have k1:(k:Int)<(K.length:Int):=by omega
   have k0:(0:Int)<=(k:Int):=by omega
   obtain⟨gk,ok,eq,hx,hec⟩:=HKL.out.at_ hlt
   subst eq
   have hex:=a3P.1 (HKX.out _ (List.getElem_mem hx))
   obtain⟨gl,ol,eq2,hx2,hc⟩:=HL.out.at_ (k:=K[k].toNat) (by omega)
   subst eq2
   have hfd:a1A L L[K[k].toNat].nm=K[k]:=by rw[a3c HD.out hx2];omega
   have lk:gk<wr.heap.size:=Nat.lt_of_lt_of_le hec.1 HWr.out.size
   have ll:gl<wr.heap.size:=Nat.lt_of_lt_of_le hc.1 HWr.out.size
   have HEC:=h_ hec
   have HCC:=h_ hc
   have HFC:Hid (∀w',Below wr.heap.size wr w'->Calls Tryz.prog 209 #[.agg #[.string ⟨tn.toArray⟩,.slice (some ⟨gl,ol,none⟩) L.length m,.slice a2 n2 m2,.slice a3 n3 m3,.slice a4 n4 m4],.string ⟨L[K[k].toNat].nm.toArray⟩] w' (Ret w' (.int .i64 K[k]))):=h_ fun w' hw'=>by
    have:=a7B L L[K[k].toNat].nm tn (some ⟨gl,ol,none⟩) m (.slice a2 n2 m2) (.slice a3 n3 m3) (.slice a4 n4 m4) w' (by omega) (HL.out.kept (HWr.out.trans (hw'.mono HWr.out.size)) (Nat.le_refl _))
    rw[hfd] at this
    exact this
   have HWI:Hid (∀w',Calls Tryz.prog 217 #[.int .i64 K[k],.int .i64 0,.int .i64 (IntKind.i64.wrap ((L.length:Int) - 1))] w' (Ret w' (.bool true))):=h_ fun w'=>by
    rw[show IntKind.i64.wrap ((L.length:Int) - 1)=(L.length:Int) - 1 by rw[IntKind.wrap_i64];omega]
    have:=a4x K[k] 0 ((L.length:Int) - 1) w'
    rw[decide_eq_true hex.1,decide_eq_true (show K[k]<=(L.length:Int) - 1 by omega)] at this
    exact this
   clear hfd hec hc
   generalize L[K[k].toNat].nm=nm at HFC HCC
   generalize L[K[k].toNat].kind=ckd at HCC
   generalize L[K[k].toNat].nul=cnl at HCC
   generalize K[k]=kv at HFC HEC HCC HWI hex hx2
   obtain⟨q0,q1⟩:=hex
   have hbne:(kv != kv)=false:=by simp
   have lw:w.heap.size<wr.heap.size:=HBr.out.lt
   have hL1:0<L.length:=by omega
   clear hx2
   go_upto_region 4 with(fail)
   refine Gr.f_ 27 (by kernel_rfl) (by kernel_rfl) (fun w'=>Below wr.heap.size wr w') ⟨rfl,rfl,rfl,Nat.le_refl _,fun _ _=>rfl⟩ ?_
   simp only[List.take_succ_cons,List.take_zero,List.drop_succ_cons,List.drop_zero]
   iterate 8
    first
    |apply Gr.sn;focus(go_simp;intro w' hw';go_simp;rw[Gr.a_];done)
    |apply Gr.sn;focus(go_simp;intro w' hw';have e0:=HEC.out.at0 (HWr.out.trans (hw'.mono HWr.out.size)) rfl;(simp only[Nat.mul_one] at e0);go_simp;rw[Gr.a_];done)
    |apply Gr.sn;focus(go_simp;intro w' hw';have t0:=(HBr.out.below hw').cell 0 rfl;have t1:=(HBr.out.below hw').cell 1 rfl;have t2:=(HBr.out.below hw').cell 2 rfl;have t3:=(HBr.out.below hw').cell 3 rfl;have t4:=(HBr.out.below hw').cell 4 rfl;go_simp;rw[Gr.a_];done)
    intro K hK;go_simp;refine hK _ ?_;clear hK K
   refine Gr.sn (.bool true) (by go_simp;intro w' hw';go_simp;rw[Gr.b_];exact Ret.fam (HWI.out w') hw') fun K hK=>?_;go_simp;refine hK _ ?_;clear hK K
   iterate 12
    first
    |apply Gr.sn;focus(go_simp;intro w' hw';go_simp;rw[Gr.a_];done)
    |apply Gr.sn;focus(go_simp;intro w' hw';have c0:=HCC.out.at0 (HWr.out.trans (hw'.mono HWr.out.size)) rfl;go_simp;rw[Gr.a_];done)
    |apply Gr.sn;focus(go_simp;intro w' hw';have e0:=HEC.out.at0 (HWr.out.trans (hw'.mono HWr.out.size)) rfl;(simp only[Nat.mul_one] at e0);go_simp;rw[Gr.a_];done)
    |apply Gr.sn;focus(go_simp;intro w' hw';have t0:=(HBr.out.below hw').cell 0 rfl;have t1:=(HBr.out.below hw').cell 1 rfl;have t2:=(HBr.out.below hw').cell 2 rfl;have t3:=(HBr.out.below hw').cell 3 rfl;have t4:=(HBr.out.below hw').cell 4 rfl;go_simp;rw[Gr.a_];done)
    intro K hK;go_simp;refine hK _ ?_;clear hK K
   refine Gr.sn (.int .i64 kv) (by go_simp;intro w' hw';go_simp;rw[Gr.b_];exact Ret.fam (HFC.out w' hw') hw') fun K hK=>?_;go_simp;refine hK _ ?_;clear hK K
   iterate 5
    first
    |apply Gr.sn;focus(go_simp;intro w' hw';go_simp;rw[Gr.a_];done)
    |apply Gr.sn;focus(go_simp;intro w' hw';have e0:=HEC.out.at0 (HWr.out.trans (hw'.mono HWr.out.size)) rfl;(simp only[Nat.mul_one] at e0);go_simp;rw[Gr.a_];done)
    intro K hK;go_simp;refine hK _ ?_;clear hK K
   refine Gr.o_ fun w4 hw4=>?_
   have HB4:=t_ HBB hw4
   clear hw4 HFC HWI HEC HCC
   go_wp2_with fail
   go_roundw
   case rel=>exact⟨k+1,by omega,by go_num,HB4.out⟩
   case measure=>simp[intOf];omega
  ·obtain rfl:k=K.length:=by omega
   have d1:decide ((K.length:Int)<(K.length:Int))=false:=decide_eq_false (by omega)
   have d2:decide ((0:Int)<(K.length:Int))=true:=decide_eq_true (by omega)
   have d3:(0:Int)<(K.length:Int):=by omega
   go_wp2_with fail
   go_ret
   exact⟨rfl,HWr.out⟩
theorem a7Y(L:List Col)(K:List Int)(Fs:List Fkey)(Xs:List X)(tn:S)(a a2 a3 ax:Option Addr)(m m2 m3 mx:Nat)(w:World)(hE:Env w)(hN:nameB tn=true)(hC:a0f L)(hK:a2F L K)(hF:a0T L.length Fs)(hX:∀x∈Xs,nodes x<=1000000/\D_ x)(hXl:Xs.length<=4)(h1:CL w L (.slice a L.length m))(h2:IL w K (.slice a2 K.length m2))(h3:FL w Fs (.slice a3 Fs.length m3))(h4:XL w Xs (.slice ax Xs.length mx)):Calls Tryz.prog 224 #[.agg #[.string ⟨tn.toArray⟩,.slice a L.length m,.slice a2 K.length m2,.slice a3 Fs.length m3,.slice none 0 0],.slice ax Xs.length mx] w (Ret w (.bool (Xs.all pOk))):=by
 have H1:=h_ h1
 have H2:=h_ h2
 have H3:=h_ h3
 have H4:=h_ h4
 have HCO:=h_ hC
 have HLN:=hC.1
 have hFN:=hF.1
 have HKC:=h_ (a5J hC.1.2 hK)
 have HFO:=h_ hF
 have HXX:=h_ hX
 have HI:Hid (∀(s:S) (w':World),nameB s=true->Below w.heap.size w w'->Calls Tryz.prog 130 #[.string ⟨s.toArray⟩] w' (Ret w' (.bool true))):=h_ fun s w' hs hw'=>by
  have:=a1H s w'
  rw[hs] at this
  exact this
 have HNK:Hid (∀(w':World) (J:List Int) (aj:Option Addr) (mj:Nat),Cis L.length J->IL w J (.slice aj J.length mj)->Below w.heap.size w w'->Calls Tryz.prog 273 #[.agg #[.string ⟨tn.toArray⟩,.slice a L.length m,.slice a2 K.length m2,.slice a3 Fs.length m3,.slice none 0 0],.slice aj J.length mj] w' (Ret w' (.bool true))):=h_ fun w' J aj mj hJ hj hw'=>a6O L J tn a a2 a3 none aj m K.length m2 Fs.length m3 0 0 mj w' hJ HCO.out.2.2 HLN.2 (H1.out.kept hw' (Nat.le_refl _)) (hj.kept hw' (Nat.le_refl _))
 have HCK:Hid (∀(w':World) (c:Col),a1C c->Below w.heap.size w w'->Calls Tryz.prog 274 #[.agg #[.string ⟨c.nm.toArray⟩,.int .i64 c.kind,.bool c.nul]] w' (Ret w' (.bool true))):=h_ fun w' c hc hw'=>a7c c w' hc
 have HPR:Hid (∀(w':World) (x:X) (cs:List Value),x∈Xs->XR w x cs->Below w.heap.size w w'->Calls Tryz.prog 29 #[.agg cs.toArray] w' (Ret w' (.bool (pOk x)))):=h_ fun w' x cs hx hr hw'=>by
  have:=a4b 1000000 x cs w' (HXX.out x hx).1 (HXX.out x hx).2 (hr.kept hw' (Nat.le_refl _))
  rw[<-ok_eq 1000000 x (HXX.out x hx).1 (by decide)] at this
  exact this
 clear h1 h2 h3 h4 hC hK hF hX hE
 go_enter Tryz.func224,Tryz.ntmps224
 go_upto_region 1 with(fail)
 refine nA fun w1 hB hw1 hz1=>?_
 have HB:=h_ hB
 have HW:=h_ hw1
 have p0:=hB.cell 0 rfl
 clear hB hw1 hz1
 go_wp2_with fail
 refine(HI.out tn w1 hN HW.out).mono ?_
 rintro e w2 ⟨rfl,hw2⟩
 have HB2:=h_ (HB.out.below hw2)
 have HW2:=t_ HW hw2
 obtain⟨p0_,p1,p2,p3,p4⟩:=HB2.out.c5
 have d1:((L.length:Int)==0)=false:=by rw[beq_eq_false_iff_ne];omega
 have d1':(L.length==0)=false:=by rw[beq_eq_false_iff_ne];omega
 have d1a:L.isEmpty=false:=by cases L;exact absurd HLN.1 (by simp);rfl
 have d1b:decide ((0:Int)<(0:Int))=false:=by decide
 clear hw2 p0 hN
 go_wp2_with fail
 refine(HNK.out w2 K a2 m2 HKC.out H2.out HW2.out).mono ?_
 rintro e w3 ⟨rfl,hw3⟩
 have HB3:=h_ (HB2.out.below hw3)
 have HW3:=t_ HW2 hw3
 clear hw3 p0_ p1 p2 p3 p4 d1 d1' d1a
 go_upto_region 4 with(fail)
 go_loopw [5] (fun i wr=>∃k:Nat,k<=L.length/\i=.int .i64 (k:Int)/\Below w3.heap.size w3 wr) (fun i _=>L.length - (intOf i).toNat)
 case atStart=>exact⟨0,Nat.zero_le _,rfl,Below.refl _ _⟩
 case round=>
  obtain⟨k,hk,rfl,hb⟩:=hrel
  have HBB:=h_ hb
  have HWr:=t_ HW3 hb
  have HBr:=h_ (HB3.out.below hb)
  have p1:=HBr.out.cell 1 rfl
  have lp:w.heap.size<wr.heap.size:=HBr.out.lt
  clear hb
  by_cases hlt:k<L.length
  ·have k1:(k:Int)<(L.length:Int):=by omega
   have k0:(0:Int)<=(k:Int):=by omega
   obtain⟨g,o,eq,hx,hec⟩:=H1.out.at_ hlt
   subst eq
   have HC1:=h_ fun(w':World) (hw':Below wr.heap.size wr w')=>HCK.out w' L[k] (HCO.out.2.1 _ (List.getElem_mem hx)) (HWr.out.trans (hw'.mono HWr.out.size))
   generalize L[k]=c at hec HC1
   obtain⟨cnm,ckd,cnl⟩:=c
   dsimp only at hec HC1
   have c0:=hec.at0 HWr.out rfl
   have c1:=hec.at_ HWr.out (j:=1) rfl
   have c2:=hec.at_ HWr.out (j:=2) rfl
   have lg:g<wr.heap.size:=Nat.lt_of_lt_of_le hec.1 HWr.out.size
   clear hec
   go_wp2_with fail
   refine(HC1.out _ (Below.refl _ _)).mono ?_
   rintro e w4 ⟨rfl,hw4⟩
   have HB4:=t_ HBB hw4
   clear hw4 c0 c1 c2 HC1 p1
   go_wp2_with fail
   go_roundw
   case rel=>exact⟨k+1,by omega,by go_num,HB4.out⟩
   case measure=>simp[intOf];omega
  ·obtain rfl:k=L.length:=by omega
   have d1:decide ((L.length:Int)<(L.length:Int))=false:=decide_eq_false (by omega)
   go_upto_region 9 with(fail)
   obtain⟨w5,e5⟩:∃x,x=wr:=⟨_,rfl⟩
   subst e5
   clear p1 lp
   go_loopw [6] (fun i wi=>∃j:Nat,j<=Fs.length/\i=.int .i64 (j:Int)/\Below w5.heap.size w5 wi) (fun i _=>Fs.length - (intOf i).toNat)
   case atStart=>exact⟨0,Nat.zero_le _,rfl,Below.refl _ _⟩
   case round=>
    obtain⟨j,hj,rfl,hb⟩:=hrel
    have HBC:=h_ hb
    have HWj:=t_ HWr hb
    have HBj:=h_ (HBr.out.below hb)
    have p3:=HBj.out.cell 3 rfl
    have lp:w.heap.size<wr.heap.size:=HBj.out.lt
    clear hb
    by_cases hlt2:j<Fs.length
    ·have k1:(j:Int)<(Fs.length:Int):=by omega
     have k0:(0:Int)<=(j:Int):=by omega
     obtain⟨g,o,eq,hx,fb,fc,hec,hil⟩:=H3.out.at_ hlt2
     subst eq
     have hfo:=HFO.out.2 _ (List.getElem_mem hx)
     have HN1:=h_ fun(w':World) (hw':Below wr.heap.size wr w')=>HI.out Fs[j].tb w' hfo.1 (HWj.out.trans (hw'.mono HWj.out.size))
     have HN2:=h_ fun(w':World) (hw':Below wr.heap.size wr w')=>HNK.out w' Fs[j].cols fb fc (a6u HLN.2 hfo) hil (HWj.out.trans (hw'.mono HWj.out.size))
     clear hfo hil
     generalize Fs[j].tb=ftb at hec HN1
     generalize Fs[j].cols=fcols at hec HN2
     have HEC:=h_ hec
     have lg:g<wr.heap.size:=Nat.lt_of_lt_of_le hec.1 HWj.out.size
     clear hec
     go_upto_region 11 with(fail)
     clear p3
     refine Gr.f_ 18 (by kernel_rfl) (by kernel_rfl) (fun w'=>Below wr.heap.size wr w') ⟨rfl,rfl,rfl,Nat.le_refl _,fun _ _=>rfl⟩ ?_
     simp only[List.take_succ_cons,List.take_zero,List.drop_succ_cons,List.drop_zero]
     iterate 6
      first
      |apply Gr.sn;focus(go_simp;intro w' hw';go_simp;rw[Gr.a_];done)
      |apply Gr.sn;focus(go_simp;intro w' hw';have p3:=(HBj.out.below hw').cell 3 rfl;go_simp;rw[Gr.a_];done)
      |apply Gr.sn;focus(go_simp;intro w' hw';have e1:=HEC.out.at_ (HWj.out.trans (hw'.mono HWj.out.size)) (j:=1) rfl;go_simp;rw[Gr.a_];done)
      intro K hK;go_simp;refine hK _ ?_;clear hK K
     refine Gr.sn (.bool true) (by go_simp;intro w' hw';go_simp;rw[Gr.b_];exact Ret.fam (HN1.out w' hw') hw') fun K hK=>?_;go_simp;refine hK _ ?_;clear hK K
     iterate 9
      first
      |apply Gr.sn;focus(go_simp;intro w' hw';go_simp;rw[Gr.a_];done)
      |apply Gr.sn;focus(go_simp;intro w' hw';have p3:=(HBj.out.below hw').cell 3 rfl;go_simp;rw[Gr.a_];done)
      |apply Gr.sn;focus(go_simp;intro w' hw';have e0:=HEC.out.at0 (HWj.out.trans (hw'.mono HWj.out.size)) rfl;go_simp;rw[Gr.a_];done)
      |apply Gr.sn;focus(go_simp;intro w' hw';have t0:=(HBj.out.below hw').cell 0 rfl;have t1:=(HBj.out.below hw').cell 1 rfl;have t2:=(HBj.out.below hw').cell 2 rfl;have t3:=(HBj.out.below hw').cell 3 rfl;have t4:=(HBj.out.below hw').cell 4 rfl;go_simp;rw[Gr.a_];done)
      intro K hK;go_simp;refine hK _ ?_;clear hK K
     refine Gr.sn (.bool true) (by go_simp;intro w' hw';go_simp;rw[Gr.b_];exact Ret.fam (HN2.out w' hw') hw') fun K hK=>?_;go_simp;refine hK _ ?_;clear hK K
     refine Gr.sn _ (by go_simp;intro w' hw';go_simp;rw[Gr.a_]) fun K hK=>?_;go_simp;refine hK _ ?_;clear hK K
     refine Gr.o_ fun w8 hw8=>?_
     have HB8:=t_ HBC hw8
     clear hw8 HN1 HN2 HEC
     go_wp2_with fail
     go_roundw
     case rel=>exact⟨j+1,by omega,by go_num,HB8.out⟩
     case measure=>simp[intOf];omega
    ·obtain rfl:j=Fs.length:=by omega
     have d2:decide ((Fs.length:Int)<(Fs.length:Int))=false:=decide_eq_false (by omega)
     go_upto_region 14 with(fail)
     obtain⟨w6,e6⟩:∃x,x=wr:=⟨_,rfl⟩
     subst e6
     clear p3 lp
     go_loopw [7] (fun i wi=>∃n:Nat,n<=Xs.length/\Hid ((Xs.take n).all pOk=true)/\i=.int .i64 (n:Int)/\Below w6.heap.size w6 wi) (fun i _=>Xs.length - (intOf i).toNat)
     case atStart=>exact⟨0,Nat.zero_le _,h_ rfl,rfl,Below.refl _ _⟩
     case round=>
      obtain⟨n,hn,HQ,rfl,hb⟩:=hrel
      have HB7:=h_ hb
      have HWn:=t_ HWj hb
      clear hb
      by_cases hlt3:n<Xs.length
      ·have k1:(n:Int)<(Xs.length:Int):=by omega
       have k0:(0:Int)<=(n:Int):=by omega
       obtain⟨g,o,us,eq,hec,hkx,hrx⟩:=H4.out.ec hlt3
       subst eq
       have HT:Hid ((Xs.take (n+1)).all pOk=pOk Xs[n]):=h_ (by rw[List.take_succ_eq_append_getElem hkx,List.all_append,HQ.out];simp)
       have HNO:Hid (pOk Xs[n]=false->Xs.all pOk=false):=h_ fun h=>by
        rw[List.all_eq_false]
        exact⟨_,List.getElem_mem hkx,by rw[h];simp⟩
       have HP1:=h_ fun(w':World) (hw':Below wr.heap.size wr w')=>HPR.out w' Xs[n] us (List.getElem_mem hkx) hrx (HWn.out.trans (hw'.mono HWn.out.size))
       generalize pOk Xs[n]=pb at HT HP1 HNO
       generalize Xs[n]=xk at hrx
       obtain⟨eop,eint,evk,evi,evs,enm,el⟩:=xk
       obtain⟨ea,em,rfl,_⟩:=hrx.lits
       obtain⟨c0,c1,c2,c3,c4,c5,c6⟩:=hec.c7 HWn.out
       have lg:g<wr.heap.size:=Nat.lt_of_lt_of_le hec.1 HWn.out.size
       clear hec hrx HQ
       go_wp2_with fail
       refine(HP1.out _ (Below.refl _ _)).mono ?_
       rintro e w8 ⟨rfl,hw8⟩
       have HB8:=t_ HB7 hw8
       have HW8:=t_ HWn hw8
       clear hw8 c0 c1 c2 c3 c4 c5 c6 HP1
       cases pb with
       |true=>
        go_wp2_with fail
        go_roundw
        case rel=>exact⟨n+1,by omega,HT,by go_num,HB8.out⟩
        case measure=>simp[intOf];omega
       |false=>
        have HF:=h_ (HNO.out rfl)
        clear HNO
        go_wp2_with fail
        go_ret
        exact⟨by rw[HF.out];rfl,HW8.out⟩
      ·obtain rfl:n=Xs.length:=by omega
       have d3:decide ((Xs.length:Int)<(Xs.length:Int))=false:=decide_eq_false (by omega)
       have HF:Hid (Xs.all pOk=true):=h_ (by have:=HQ.out;rw[List.take_length] at this;exact this)
       clear HQ
       go_wp2_with fail
       go_ret
       exact⟨by rw[HF.out];rfl,HWn.out⟩
end Go.Proofs.YtlimlmjljjmcpaaGreatDoor.Px
