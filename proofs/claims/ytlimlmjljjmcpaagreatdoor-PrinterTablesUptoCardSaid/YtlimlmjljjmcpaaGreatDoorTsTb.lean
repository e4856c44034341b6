import Derived.Test.YtlimlmjljjmcpaaGreatDoorTkB
import Derived.Test.YtlimlmjljjmcpaaGreatDoorTsSt
import Derived.Test.YtlimlmjljjmcpaaGreatDoorTsTx
import Derived.Test.YtlimlmjljjmcpaaGreatDoorTqX
import Derived.Test.YtlimlmjljjmcpaaGreatDoorTpX
import Derived.Test.YtlimlmjljjmcpaaGreatDoorTmX
import Derived.Test.YtlimlmjljjmcpaaGreatDoorTsCr
import Derived.Deep.DeepCutAuto
import Derived.Deep.CutBlock
set_option maxHeartbeats 16000000
set_option maxRecDepth 100000
namespace Go.Proofs.YtlimlmjljjmcpaaGreatDoor.Px
open Go Go.RowKit Go.Proofs.YtlimlmjljjmcpaaGreatDoor.Ps
set_option linter.unusedVariables false
set_option linter.unusedSimpArgs false
theorem b3P(L:List Col)(K:List Int)(Fs:List Fkey)(Cs:List X)(tn:S)(a a2 a3 a4:Option Addr)(m m2 m3 m4:Nat)(w:World)(hE:Env w)(ht:Ax.a0O w)(hL:L.length<=1000000)(hK:K.length<=1099511627776)(hfl:∀f∈Fs,f.cols.length<=1099511627776 /\ ∀c∈f.cols,-9223372036854775808<=c/\c<=9223372036854775807)(hcs:∀x∈Cs,nodes x<=2000/\D_ x)(h1:CL w L (.slice a L.length m))(h2:IL w K (.slice a2 K.length m2))(h3:FL w Fs (.slice a3 Fs.length m3))(h4:XL w Cs (.slice a4 Cs.length m4))(R:S × Int)(hy:a1D ⟨tn,L,K,Fs,Cs⟩->R=c1H tn L K Fs Cs)(hno:¬a1D ⟨tn,L,K,Fs,Cs⟩->R=([],8)):Calls Tryz.prog 19 #[.agg #[.string ⟨tn.toArray⟩,.slice a L.length m,.slice a2 K.length m2,.slice a3 Fs.length m3,.slice a4 Cs.length m4]] w (Ret w (a4c R)):=by
 obtain⟨ix,hix,hx0,hx1,hx2⟩:=info_parts a2e
 obtain⟨Xs,hXs⟩:∃l,l=Cs.map (nmX L):=⟨_,rfl⟩
 have hXL:Xs.length=Cs.length:=by rw[hXs,List.length_map]
 have HXL:=h_ hXL
 have HXE:=h_ hXs
 have HCK:=h_ fun(w':World) (hw':Below w.heap.size w w')=>b4e L K Fs Cs tn a a2 a3 a4 m m2 m3 m4 w' (Ax.n_ ht hw') hL hK hfl (fun x hx=>⟨Nat.le_trans (hcs x hx).1 (by decide),(hcs x hx).2⟩) (h1.kept hw' (Nat.le_refl _)) (h2.kept hw' (Nat.le_refl _)) (h3.kept hw' (Nat.le_refl _)) (h4.kept hw' (Nat.le_refl _))
 have HCR:=h_ fun(f:TbFacts tn L K Fs Cs) (w':World) (hw':Below w.heap.size w w')=>b2W L K Fs Cs tn a a2 a3 a4 m m2 m3 m4 w' (Nat.le_trans f.fors.1 (by decide)) (fun F hF=>(hfl F hF).1) (Nat.le_trans f.clen (by decide)) (fun x hx=>Nat.le_trans (hcs x hx).1 (by decide)) (h1.kept hw' (Nat.le_refl _)) (h2.kept hw' (Nat.le_refl _)) (h3.kept hw' (Nat.le_refl _)) (h4.kept hw' (Nat.le_refl _))
 have HFA:Hid (a1D ⟨tn,L,K,Fs,Cs⟩->(TbFacts tn L K Fs Cs /\ ∀x∈Xs,nodes x<=2000/\D_ x)/\R=a6Q Xs (Xs.all pOk) (a0n tn L K Fs Xs)):=h_ fun h=>⟨⟨TbFacts.of h hcs,by rw[hXs];exact(TbFacts.of h hcs).xs⟩,by rw[hy h,hXs];rfl⟩
 have HNO:=h_ hno
 have HE:=h_ hE
 have H1:=h_ h1
 have H4:=h_ h4
 have HNX:=h_ hcs
 have HLL0:=h_ hL
 have HTB:=h_ fun(w':World) (hw':Below w.heap.size w w')=>Ax.n_ ht hw'
 clear hno hy hcs h1 h2 h3 h4 hfl hE ht hXs hXL hL
 go_enter Tryz.func19,Tryz.ntmps19
 go_upto_region 1 with(fail)
 refine nA fun w1 hB hw1 hz1=>?_
 have HB:=h_ hB
 have HW:=h_ hw1
 clear hB hw1 hz1
 obtain⟨p0,p1,p2,p3,p4⟩:=HB.out.c5
 go_wp2_with fail
 refine(HCK.out w1 HW.out).mono ?_
 rintro e w2 ⟨q,rfl,hq,hw2⟩
 have HQ:=h_ hq
 have HW2:=t_ HW hw2
 have HB2:=h_ (HB.out.below hw2)
 clear hw2 hq p0 p1 p2 p3 p4 HCK
 by_cases h0:q=0
 ·obtain⟨HFT,HRE⟩:=HFA.out (HQ.out.1 h0)
  have HFT:=h_ HFT
  have HRE:=h_ HRE
  subst h0
  clear HFA HNO HQ
  obtain⟨p0,p1,p2,p3,p4⟩:=HB2.out.c5
  go_wp2_with fail
  refine(HCR.out HFT.out.1 w2 HW2.out).mono ?_
  rintro e w3 ⟨⟨b1,q1,b2,q2,b3,q3,b4,n4,q4,rfl,hfr⟩,hw3⟩
  have HFR:=h_ hfr
  have HS3:=h_ hw3.size
  have HW3:=t_ HW2 hw3
  have HB3:=h_ (HB2.out.below hw3)
  clear hw3 hfr p0 p1 p2 p3 p4 HCR
  go_upto_region 4 with(fail)
  refine nA fun w4 hV hw4 hz4=>?_
  have HV:=h_ hV
  have HB4:=h_ (HB3.out.below hw4)
  have HW4:=t_ HW3 hw4
  have HZ4:=h_ hz4
  have HY4:=h_ hw4
  have v4_:=hV.cell 4 rfl
  have f4_:=hV.free 4
  have lv:=hV.lt
  clear hV hw4 hz4
  go_upto_region 5 with(fail)
  refine a0p (K:=Code.wp _ _ _ _) HV.out fun w5 hL5 hw5 hs5 ho5=>?_
  have HB5:=h_ (Blk.low HB4.out hw5 HB3.out.lt)
  have HW5:=h_ (HW4.out.trans (hw5.mono HW3.out.size))
  have HV5:=h_ hL5
  have HF5:Hid (∀w':World,(∀b,w2.heap.size<=b->b<w5.heap.size->b ≠ w5.heap.size->w'.heap[b]? = w5.heap[b]?)->CL w' L (.slice b1 L.length q1)/\IL w' K (.slice b2 K.length q2)/\FL w' Fs (.slice b3 Fs.length q3)):=h_ fun w' hw'=>HFR.out w' fun b k1 k2=>by
   have hz:=HZ4.out
   exact(hw' b k1 (by omega) (by omega)).trans ((ho5 b (by omega)).trans (HY4.out.block b k2))
  have HZ5:Hid (w2.heap.size<=w5.heap.size):=h_ (by have:=HZ4.out;have:=HS3.out;omega)
  clear hL5 hw5 hs5 ho5 v4_ f4_ lv HV HFR HB3 HB4
  obtain⟨v0,v1,v2,v3,v4⟩:=HV5.out.c5
  have lv:=HV5.out.lt
  go_cut [5] (fun v wx=>∃g,v=.pointer (some ⟨g,0,none⟩)/\g=w5.heap.size/\wx.heap.size=w5.heap.size+1/\Blk wx g (stC (tbC tn b1 L.length q1 b2 K.length q2 b3 Fs.length q3) (.slice none 0 0)) 63/\Below w5.heap.size w5 wx)
  case first=>
   go_wp2_with (refine a2y rfl 63 (.tmp 5) (.tmp 15) rfl w5.heap.size (stC (tbC tn b1 L.length q1 b2 K.length q2 b3 Fs.length q3) (.slice none 0 0)) rfl rfl 63 _ (Blk.new w5 _ _) (by kernel_rfl) rfl (a8k _ _ (fun u hu=>List.all_eq_true.1 (show(List.all (tbC tn b1 L.length q1 b2 K.length q2 b3 Fs.length q3) fun u=>u.oneCell')=true from rfl) u hu) rfl) ?_)
   intro w6 hB6 hg6 hz6
   have hb6:Below w5.heap.size w5 w6:=((Below.refl w5.heap.size w5).alloc (Nat.le_refl _) _).grown hg6 (by simp) (fun k e=>by injection e with e;omega)
   have HB6:=h_ hB6
   have HY6:=h_ hb6
   have HZ6:Hid (w6.heap.size=w5.heap.size+1):=h_ hz6
   clear hB6 hg6 hz6 hb6
   go_wp2_with fail
   go_meet
   exact⟨_,rfl,rfl,HZ6.out,HB6.out,HY6.out⟩
  case rest=>
   obtain⟨g,rfl,hge,hzc,hT,hbel⟩:=hcut
   have HST:Hid (Cl 63 w2.heap.size wc.heap.size w5 wc g (fun v=>stC (tbC tn b1 L.length q1 b2 K.length q2 b3 Fs.length q3) v) 26 7 (.slice none 0 0) [] (fun w'=>CL w' L (.slice b1 L.length q1)/\IL w' K (.slice b2 K.length q2)/\FL w' Fs (.slice b3 Fs.length q3))):=h_ (Cl.start hT (fun w' hw'=>HF5.out w' fun b k1 k2 k3=>(hw' b k1 (by omega) (by omega)).trans (hbel.block b k2)) (hbel.mono HZ5.out) (by rw[hge];exact HZ5.out) rfl)
   have HLB:Hid (w.heap.size<w2.heap.size):=h_ HB2.out.lt
   have HBc:=h_ (HB5.out.below hbel)
   have p4:=HBc.out.cell 4 rfl
   have lp:=HBc.out.lt
   clear hT hbel hge hzc v0 v1 v2 v3 v4 lv HF5 HV5
   go_upto_region 7 with(fail)
   clear p4 lp
   go_loopw [19] (fun v wl=>∃(i:Nat) (u4:Value),i<=Cs.length/\v=.int .i64 (i:Int)/\Cl 63 w2.heap.size wc.heap.size w5 wl g (fun v=>stC (tbC tn b1 L.length q1 b2 K.length q2 b3 Fs.length q3) v) 26 7 u4 ((Cs.take i).map fun x=>toC (nmX L x)) (fun w'=>CL w' L (.slice b1 L.length q1)/\IL w' K (.slice b2 K.length q2)/\FL w' Fs (.slice b3 Fs.length q3))) (fun c _=>Cs.length - (intOf c).toNat)
   case atStart=>exact⟨0,_,Nat.zero_le _,rfl,HST.out⟩
   case round=>
    obtain⟨i,u4,hi,rfl,hcl⟩:=hrel
    have HCL:=h_ hcl
    have HWl:=h_ (HW5.out.trans (hcl.bel.mono HW2.out.size))
    have HZl:Hid (wc.heap.size<=wr.heap.size):=h_ hcl.hB
    have HBl:=h_ (Blk.low HB5.out hcl.bel HLB.out)
    have hlg:g<wr.heap.size:=hcl.blk.lt
    clear hcl
    by_cases hlt:i<Cs.length
    ·obtain⟨b,q,us,eq,hec,hkx,hrx⟩:=H4.out.ec hlt
     subst eq
     have hnx:=HNX.out _ (List.getElem_mem hkx)
     have hrf:=HFT.out.1.refs _ (List.getElem_mem hkx)
     have HIK:=h_ fun(w':World) (hw':Below wr.heap.size wr w')=>b3E L tn a a2 a3 (some ⟨b,q,none⟩) m K.length m2 Fs.length m3 Cs.length m4 Cs[i] us w' (Nat.le_trans hnx.1 (by decide)) HLL0.out hrf (H1.out.kept (HWl.out.trans (hw'.mono HWl.out.size)) (Nat.le_refl _)) (hrx.kept (HWl.out.trans (hw'.mono HWl.out.size)) (Nat.le_refl _))
     have HT:=h_ (b6g L hkx)
     have hc4:=HFT.out.1.clen
     have HLL:Hid (((Cs.take i).map fun x=>toC (nmX L x)).length+1<=1000000):=h_ (by rw[List.length_map,List.length_take];omega)
     generalize hM1:((Cs.take (i+1)).map fun x=>toC (nmX L x))=M1 at HT
     have HM1:=h_ hM1
     clear hM1 hnx hrf
     generalize((Cs.take i).map fun x=>toC (nmX L x))=M at HT HLL HCL
     generalize nmX L Cs[i]=y at HT HIK
     generalize Cs[i]=xk at hrx HIK
     obtain⟨eop,eint,evk,evi,evs,enm,el⟩:=xk
     obtain⟨ea,em,rfl,_⟩:=hrx.lits
     obtain⟨yop,yint,yvk,yvi,yvs,ynm,yl⟩:=y
     have HIQ:Hid (∀(w':World),Below wr.heap.size wr w'->Calls Tryz.prog 55 #[.agg #[.int .i64 eop,.int .i64 eint,.int .i64 evk,.int .i64 evi,.string ⟨evs.toArray⟩,.string ⟨enm.toArray⟩,.slice ea el.length em],.agg #[.string ⟨tn.toArray⟩,.slice a L.length m,.slice a2 K.length m2,.slice a3 Fs.length m3,.slice (some ⟨b,q,none⟩) Cs.length m4]] w' (fun e w''=>∃ya ym,e=.returned (.agg #[.int .i64 yop,.int .i64 yint,.int .i64 yvk,.int .i64 yvi,.string ⟨yvs.toArray⟩,.string ⟨ynm.toArray⟩,.slice ya yl.length ym])/\XF w'.heap.size w''.heap.size w'' (.mk yop yint yvk yvi yvs ynm yl) [.int .i64 yop,.int .i64 yint,.int .i64 yvk,.int .i64 yvi,.string ⟨yvs.toArray⟩,.string ⟨ynm.toArray⟩,.slice ya yl.length ym]/\Below w'.heap.size w' w'')):=h_ fun w' hw'=>(HIK.out w' hw').mono fun e w'' hp=>by
      obtain⟨⟨ya,ym,h1,h2⟩,h3⟩:=hp
      exact⟨ya,ym,h1,h2,h3⟩
     obtain⟨t0,t1,t2,t3,t4,t5,t6⟩:=hec.c7 HWl.out
     have d2:decide ((i:Int)<(Cs.length:Int))=true:=decide_eq_true (by omega)
     have k0:(0:Int)<=(i:Int):=by omega
     have k1:(i:Int)<(Cs.length:Int):=by omega
     have lb:b<wr.heap.size:=Nat.lt_of_lt_of_le hec.1 HWl.out.size
     clear hec hrx HIK
     go_upto_region 9 with(fail)
     refine nA fun w7 hV hw7 hz7=>?_
     obtain⟨v0,v1,v2,v3,v4,v5,v6⟩:=hV.c7
     have hvl:=hV.lt
     have HCL7:=h_ (HCL.out.below hw7)
     have HB7:=h_ (HBl.out.below hw7)
     obtain⟨p0,p1,p2,p3,p4⟩:=HB7.out.c5
     have lp7:w.heap.size<w7.heap.size:=HB7.out.lt
     have HW7:=h_ hw7
     have HS7:Hid (wr.heap.size<=w7.heap.size):=h_ hw7.size
     have g7:=HCL7.out.blk.cell 43 (u:=u4) rfl
     have hgl7:=HCL7.out.blk.lt
     clear t0 t1 t2 t3 t4 t5 t6 hV hw7 hz7 HCL
     go_region_law (first|(go_simp;go_at_call 55;refine(HIQ.out _ (by first|exact Y_ HW7.out|exact HW7.out)).mono ?_;rintro e' w8 ⟨ya,ym,rfl,hxf,hw8⟩;have HW8:Hid (Below w7.heap.size w7 w8):=h_ (N_ hw8);have HXF:Hid (XF w7.heap.size w8.heap.size w8 (.mk yop yint yvk yvi yvs ynm yl) [.int .i64 yop,.int .i64 yint,.int .i64 yvk,.int .i64 yvi,.string ⟨yvs.toArray⟩,.string ⟨ynm.toArray⟩,.slice ya yl.length ym]):=h_ hxf;have HCL8:=h_ (HCL7.out.below HW8.out);have y80:=HCL8.out.blk.cell 43 (u:=u4) rfl;have l8:g<w8.heap.size:=HCL8.out.blk.lt;obtain⟨css,hc1,hc2,hc3,hc4_⟩:=HCL8.out.own.row;have HCS:=h_ hc4_;have HSN:Hid (wc.heap.size<=w8.heap.size):=h_ (Nat.le_trans HZl.out (Nat.le_trans HS7.out HW8.out.size));clear hw8 hxf hc4_)|(refine a0s rfl (.tmp 24) (.tmp 28) 24 rfl wc.heap.size 26 ix _ 7 88 Tryz.underlying24 hix hx0 hx1 hx2 rfl (by omega) u4 M.length _ rfl (a0r hc3 (d_ w8 _)) ⟨w8.heap.size,0,none⟩ 1 1 [.int .i64 yop,.int .i64 yint,.int .i64 yvk,.int .i64 yvi,.string ⟨yvs.toArray⟩,.string ⟨ynm.toArray⟩,.slice ya yl.length ym] rfl rfl (fun j u hj=>by rw[Addr.add_lit];exact(Blk.new w8 [.int .i64 yop,.int .i64 yint,.int .i64 yvk,.int .i64 yvi,.string ⟨yvs.toArray⟩,.string ⟨ynm.toArray⟩,.slice ya yl.length ym] 26).cell _ (by simpa using hj)) (fun u hu=>by simp at hu;rcases hu with rfl|rfl|rfl|rfl|rfl|rfl|rfl<;>rfl) (by have:=HLL.out;unfold maxLen;omega) (by have:=HLL.out;omega) (Nat.le_trans HSN.out (by simp)) ?_;intro v9 w9 hrow hg9 hat9;have HN:=h_ (Cl.push (j:=43) HCL8.out hc1 hc2 HCS.out (d_ w8 _) rfl (show FrB w7.heap.size w8.heap.size _ (fun w'=>Rp Tryz.prog w' 26 [.int .i64 yop,.int .i64 yint,.int .i64 yvk,.int .i64 yvi,.string ⟨yvs.toArray⟩,.string ⟨ynm.toArray⟩,.slice ya yl.length ym] (toC (.mk yop yint yvk yvi yvs ynm yl))) from fun w2 hw2=>HXF.out w2 fun b b1 b2=>(hw2 b b1 b2).trans ((d_ w8 _).block b b2)) (Nat.le_trans HZl.out HS7.out) (by simp) (fun q e=>(HCL7.out.own.lt q e).2) hrow hg9 (by simpa using hat9) rfl);obtain⟨a10,c10,e10⟩:=HN.out.2.own.form;rw[List.length_append,List.length_singleton] at e10;subst e10;have y91:=HN.out.1.cell 43 (u:=u4) rfl;have z91:=HN.out.1.free 43;clear hrow hg9 hat9 hc1 hc2 hc3))
     all_goals
      have HF:=h_ HN.out.2
      clear HN y80
      go_wp2_with fail
      go_roundw
      case rel=>exact⟨i+1,_,by omega,by go_num,by rw[HM1.out,HT.out];exact HF.out⟩
      case measure=>simp[intOf];omega
    ·obtain rfl:i=Cs.length:=by omega
     rw[List.take_length] at HCL
     have hc4:=HFT.out.1.clen
     have d2:decide ((Cs.length:Int)<(Cs.length:Int))=false:=decide_eq_false (by omega)
     have HCX:Hid (Cl 63 w2.heap.size wc.heap.size w5 wr g (fun v=>stC (tbC tn b1 L.length q1 b2 K.length q2 b3 Fs.length q3) v) 26 7 u4 (a1Q Xs) (fun w'=>CL w' L (.slice b1 L.length q1)/\IL w' K (.slice b2 K.length q2)/\FL w' Fs (.slice b3 Fs.length q3))):=h_ (by
      have h:=HCL.out
      rw[show(Cs.map fun x=>toC (nmX L x))=a1Q Xs by rw[a0l,HXE.out,List.map_map];rfl] at h
      exact h)
     obtain⟨⟨A5,c5,e5⟩,hdn⟩:=HCX.out.done Tryz.underlying24 (by kernel_rfl) (by rw[a0l,List.length_map,HXL.out,show Tryz.prog.bytesOf 26=88 by kernel_rfl];unfold reachBytes;omega)
     rw[a0l,List.length_map] at e5
     subst e5
     obtain⟨⟨k1,k2,k3⟩,k4⟩:=hdn wr fun _ _ _ _=>rfl
     have k4:XL wr Xs (.slice A5 Xs.length c5):=k4
     have HBG:=h_ HCX.out.blk
     have hf:=HFT.out.1
     have hfx:=HFT.out.2
     have hxl:Xs.length<=4:=by rw[HXL.out];exact hf.clen
     have HSC:=h_ (a9N L K Fs Xs tn b1 b2 b3 A5 q1 q2 q3 c5 wr (HE.out.below HWl.out) (HTB.out wr HWl.out) (Nat.le_trans hxl (by decide)) (fun x hx=>Nat.le_trans (hfx x hx).1 (by decide)) (Nat.le_trans (a0a hf.nm).1 (by decide)) k1 k2 k3 k4 _ rfl (Xs.all pOk) (a0n tn L K Fs Xs) (b5p _ _ _ _ _) (fun hb=>b3R hf.nm hf.cols hf.key hf.fors (fun x hx=>⟨(hfx x hx).1,List.all_eq_true.1 hb x hx⟩) hxl)
      (fun w4 hw4=>b0e L K Fs Xs tn b1 b2 b3 A5 q1 q2 q3 c5 w4 (HE.out.below (HWl.out.trans (hw4.mono HWl.out.size))) hf.nm hf.cols hf.key hf.fors (fun x hx=>⟨Nat.le_trans (hfx x hx).1 (by decide),(hfx x hx).2⟩) hxl (k1.kept hw4 (Nat.le_refl _)) (k2.kept hw4 (Nat.le_refl _)) (k3.kept hw4 (Nat.le_refl _)) (k4.kept hw4 (Nat.le_refl _)))
      (fun hb w4 hw4=>b4m L K Fs Xs tn b1 b2 b3 A5 q1 q2 q3 c5 w4 (HE.out.below (HWl.out.trans (hw4.mono HWl.out.size))) hf.nm hf.cols hf.key hf.fors (fun x hx=>⟨(hfx x hx).1,List.all_eq_true.1 hb x hx⟩) hxl (k1.kept hw4 (Nat.le_refl _)) (k2.kept hw4 (Nat.le_refl _)) (k3.kept hw4 (Nat.le_refl _)) (k4.kept hw4 (Nat.le_refl _))))
     clear k1 k2 k3 k4 hf hfx hxl hdn hc4 HCL HCX
     have HRE2:Hid (a6Q Xs (Xs.all pOk) (a0n tn L K Fs Xs)=R):=h_ HRE.out.symm
     generalize a6Q Xs (Xs.all pOk) (a0n tn L K Fs Xs)=F at HSC HRE2
     obtain⟨f1,f2⟩:=F
     go_wp2_with (refine T_ rfl (wpList_load_mid rfl 63 (.tmp 5) rfl g 0 rfl (stC (tbC tn b1 L.length q1 b2 K.length q2 b3 Fs.length q3) (.slice A5 Xs.length c5)) _ HBG.out.all Tryz.underlying63 rfl (by rw[a1s _ _ rfl];kernel_rfl) ?_))
     refine HSC.out.mono ?_
     rintro e w10 ⟨rfl,hw10⟩
     have HW10:=t_ HWl hw10
     clear hw10 HSC
     unfold a4c
     go_wp2_with fail
     go_ret2
     exact⟨by rw[<-HRE2.out];rfl,HW10.out⟩
 ·have HRE:=h_ (HNO.out fun h=>h0 (HQ.out.2 h))
  have d0:(q != 0)=true:=by simpa using h0
  clear h0
  go_wp2_with fail
  go_ret2
  exact⟨by rw[HRE.out];rfl,HW2.out⟩
end Go.Proofs.YtlimlmjljjmcpaaGreatDoor.Px
