import Derived.Test.YtlimlmjljjmcpaaGreatDoorTkCl
import Derived.Test.YtlimlmjljjmcpaaGreatDoorTmX
import Derived.Deep.DeepCutAuto
set_option maxHeartbeats 16000000
set_option maxRecDepth 100000
namespace Go.Proofs.YtlimlmjljjmcpaaGreatDoor.Px
open Go Go.RowKit Go.Proofs.YtlimlmjljjmcpaaGreatDoor.Ps
set_option linter.unusedVariables false
set_option linter.unusedSimpArgs false
theorem b2W(L:List Col)(K:List Int)(Fs:List Fkey)(Cs:List X)(tn:S)(a a2 a3 a4:Option Addr)(m m2 m3 m4:Nat)(w:World)(hF:Fs.length<=1000000)(hFc:∀F∈Fs,F.cols.length<=1099511627776)(hC:Cs.length<=1000000)(hX:∀x∈Cs,nodes x<=1000000)(h1:CL w L (.slice a L.length m))(h2:IL w K (.slice a2 K.length m2))(h3:FL w Fs (.slice a3 Fs.length m3))(h4:XL w Cs (.slice a4 Cs.length m4)):Calls Tryz.prog 54 #[.agg #[.string ⟨tn.toArray⟩,.slice a L.length m,.slice a2 K.length m2,.slice a3 Fs.length m3,.slice a4 Cs.length m4]] w (b6N w tn L K Fs):=by
 obtain⟨i0,hi0,hz0,hz1,hz2⟩:=info_parts a7Q
 obtain⟨ix,hix,hx0,hx1,hx2⟩:=info_parts a2e
 have H1:=h_ h1
 have H2:=h_ h2
 have H3:=h_ h3
 have H4:=h_ h4
 have HXN:=h_ hX
 have HFL:=h_ hF
 have HCN:=h_ hC
 clear h1 h2 h3 h4 hX hFc hF hC
 go_enter Tryz.func54,Tryz.ntmps54
 go_upto_region 1 with(fail)
 refine nB fun w1 hB hX hw1 hsz1=>?_
 have e0:=hB.cell 0 rfl
 have e1:=hB.cell 1 rfl
 have e2:=hB.cell 2 rfl
 have HX:=h_ hX
 have HSZ:=h_ hsz1
 have hws:=hw1.size
 have hlt1:=hB.lt
 have HBx:=h_ hB
 have HW1:=h_ hw1
 clear hX hsz1
 go_cut [3] (fun v wx=>∃g,v=.pointer (some ⟨g,0,none⟩)/\ClA w1 wx tn L K g)
 case first=>
  go_region_law (first|(go_simp;go_at_call 126;refine(b1y L a L.length m _ (H1.out.kept (n:=w.heap.size) (by first|exact hw1.trans ((belowD w1 1).mono (by omega))|exact hw1.trans ((bDA w1 _).mono (by omega))) (Nat.le_refl _))).mono ?_;rintro e' w5 ⟨⟨a5,m5,rfl,hcf⟩,hw5⟩;have HB5:Hid (Below w1.heap.size w1 w5):=h_ (by first|exact step0 hw5|exact step1 hw5);have HCF:=h_ hcf;have HW5:=h_ hw5;(try have HZ5:Hid (Blk w5 w1.heap.size [.string ⟨#[]⟩,.slice none 0 0,.slice none 0 0,.slice none 0 0,.slice none 0 0] 53):=h_ (c3a hw5));have y50:=(hB.below HB5.out).cell 0 rfl;have y51:=(hB.below HB5.out).cell 1 rfl;have y52:=(hB.below HB5.out).cell 2 rfl;have z50:=(hB.below HB5.out).lt;have hz5:=HB5.out.size;clear hw5 hcf)|(go_simp;go_at_call 127;refine(a6k K a2 K.length m2 _ (H2.out.kept (n:=w.heap.size) (by first|exact hw1.trans (HB5.out.mono (by omega))|exact(hw1.trans (HB5.out.mono (by omega))).trans ((d_ w5 _).mono (by omega))) (Nat.le_refl _))).mono ?_;rintro e' w6 ⟨⟨a6,m6,rfl,hif⟩,hw6⟩;have HB6:Hid (Below w1.heap.size w1 w6):=h_ (HB5.out.trans (by first|exact hw6.mono (by omega)|exact(step2 hw6).mono (by omega)));have HIF:=h_ hif;have HW6:=h_ hw6;(first|have HZ6:Hid (Blk w6 w1.heap.size [.string ⟨#[]⟩,.slice none 0 0,.slice none 0 0,.slice none 0 0,.slice none 0 0] 53):=h_ (HZ5.out.below hw6)|have HZ6:Hid (Blk w6 w5.heap.size [.string ⟨#[]⟩,.slice none 0 0,.slice none 0 0,.slice none 0 0,.slice none 0 0] 53):=h_ (c3e hw6)|skip);have y60:=(hB.below HB6.out).cell 0 rfl;have y61:=(hB.below HB6.out).cell 1 rfl;have y62:=(hB.below HB6.out).cell 2 rfl;have z60:=(hB.below HB6.out).lt;(try have z1:=HZ6.out.cell 0 rfl;have z2:=HZ6.out.cell 1 rfl;have z3:=HZ6.out.cell 2 rfl;have z4:=HZ6.out.cell 3 rfl;have z5:=HZ6.out.cell 4 rfl;have f1:=HZ6.out.free 0;have f2:=HZ6.out.free 1;have f3:=HZ6.out.free 2;have f4:=HZ6.out.free 3;have f5:=HZ6.out.free 4);clear hw6 hif))
  all_goals
   have hs56:w5.heap.size<=w6.heap.size:=by first|exact HW6.out.size|exact(step2 HW6.out).size
   have hs15:w1.heap.size<=w5.heap.size:=HB5.out.size
   have HI1:=h_ hs56
   have HI2:=h_ hs15
   clear hs56 hs15
   go_wp2_with fail
   go_meet
   have hs56:=HI1.out
   have hs15:=HI2.out
   first
    |(have hz5:=HZ5.out.lt;exact⟨_,rfl,ClA.set (lo1:=w1.heap.size+1) (hi1:=w5.heap.size) HZ6.out rfl (Nat.le_refl _) HB6.out (by have h:=HCF.out;rw[sDA] at h;exact CF.below h HW6.out (Nat.le_refl _)) HIF.out (by omega) hs56 (.inl (by omega)) hs15 (Nat.le_refl _) (.inl hz5)⟩)
    |(have hz6:=HZ6.out.lt;exact⟨_,rfl,ClA.set (lo2:=w5.heap.size+1) HZ6.out rfl hs15 HB6.out (CF.below HCF.out (step2 HW6.out) (Nat.le_refl _)) (by have h:=HIF.out;rw[sA] at h;exact h) (Nat.le_refl _) hs56 (.inr (Nat.le_refl _)) (by omega) (Nat.le_refl _) (.inl (by omega))⟩)
    |exact⟨_,rfl,ClA.new HB6.out (CF.below HCF.out HW6.out (Nat.le_refl _)) HIF.out (Nat.le_refl _) hs56 hs15 (Nat.le_refl _)⟩
 case rest=>
  obtain⟨g,rfl,⟨b1,q1,b2,q2,hT,hfr⟩,hlo,hbel⟩:=hcut
  have hn3:=HFL.out
  have r3:=(HBx.out.below hbel).cell 3 rfl
  have HST:Hid (Cl 53 w1.heap.size wc.heap.size w1 wc g (fun v=>[.string ⟨tn.toArray⟩,.slice b1 L.length q1,.slice b2 K.length q2,v,.slice none 0 0]) 122 2 (.slice none 0 0) [] (fun w'=>CL w' L (.slice b1 L.length q1)/\IL w' K (.slice b2 K.length q2))):=h_ (Cl.start hT hfr hbel hlo rfl)
  have HGL:Hid (w.heap.size+1+1<=w1.heap.size):=h_ (by have:=HSZ.out;omega)
  have HGc:Hid (w1.heap.size<=wc.heap.size):=h_ hbel.size
  clear hT hfr hbel hlo e0 e1 e2 hB hw1 hws hlt1
  go_wp2_with fail
  go_loopw [20] (fun v wr=>∃(k:Nat) (v3:Value),k<=Fs.length/\v=.int .i64 (k:Int)/\Cl 53 w1.heap.size wc.heap.size w1 wr g (fun v=>[.string ⟨tn.toArray⟩,.slice b1 L.length q1,.slice b2 K.length q2,v,.slice none 0 0]) 122 2 v3 ((Fs.take k).map a2s) (fun w'=>CL w' L (.slice b1 L.length q1)/\IL w' K (.slice b2 K.length q2))) (fun c _=>Fs.length - (intOf c).toNat)
  case atStart=>exact⟨0,_,Nat.zero_le _,rfl,HST.out⟩
  case round=>
   obtain⟨k,v3,hk,rfl,hcl⟩:=hrel
   have HCL:=h_ hcl
   have HWr:=h_ (HW1.out.trans (hcl.bel.mono (by have:=HGL.out;omega)))
   have HZr:Hid (wc.heap.size<=wr.heap.size):=h_ hcl.hB
   have HGB:Hid (g<wc.heap.size):=h_ hcl.ghi
   have hlg:g<wr.heap.size:=hcl.blk.lt
   have HBxr:=h_ (HBx.out.below (hcl.bel))
   have HXr:=h_ (HX.out.below (hcl.bel))
   clear hcl
   by_cases hlt:k<Fs.length
   ·obtain⟨b,q,eq,hx,fb,fc,hec,hil,hsz⟩:=H3.out.get hlt
    subst eq
    have HT:=h_ (b6O hlt)
    have HLL:Hid (((Fs.take k).map a2s).length+1<=1000000):=h_ (by rw[List.length_map,List.length_take];omega)
    generalize hM1:(Fs.take (k+1)).map a2s=M1 at HT
    have HM1:=h_ hM1
    clear hM1
    generalize(Fs.take k).map a2s=M at HT HLL HCL
    generalize Fs[k]=F at HT hec hil hsz
    obtain⟨fcols,ftb⟩:=F
    dsimp only at hec hil hsz
    have HIL:=h_ hil
    have HSF:=h_ hsz
    have r0:=hec.at0 HWr.out rfl
    have r1:=hec.at_ HWr.out (j:=1) rfl
    have lb:b<wr.heap.size:=Nat.lt_of_lt_of_le hec.1 HWr.out.size
    have d1:decide ((k:Int)<(Fs.length:Int))=true:=decide_eq_true (by omega)
    have k0:(0:Int)<=(k:Int):=by omega
    have k1:(k:Int)<(Fs.length:Int):=by omega
    clear hec hil hsz r3
    go_upto_region 1 with(fail)
    refine nA fun w7 hV hw7 hz7=>?_
    have v0:=hV.cell 0 rfl
    have v1:=hV.cell 1 rfl
    have hvl:=hV.lt
    have HV7:=h_ hV
    have HCL7:=h_ (HCL.out.below hw7)
    have HW7:=t_ HWr hw7
    have HS7:Hid (wr.heap.size<=w7.heap.size):=h_ hw7.size
    have g7:=HCL7.out.blk.cell 3 rfl
    have hgl7:=HCL7.out.blk.lt
    clear r0 r1 hV hw7 hz7 HCL
    go_region_law (first|(go_simp;go_at_call 127;refine(a6k fcols fb fcols.length fc _ (HIL.out.kept (n:=w.heap.size) (Y_ HW7.out) (Nat.le_refl _))).mono ?_;rintro e' w8 ⟨⟨a9,m9,rfl,hif⟩,hw8⟩;have HW8:Hid (Below w7.heap.size w7 w8):=h_ (N_ hw8);have HIF:Hid (IF w7.heap.size w8.heap.size w8 fcols (.slice a9 fcols.length m9)):=h_ hif;have HCL8:=h_ (HCL7.out.below HW8.out);have y80:=HCL8.out.blk.cell 3 rfl;have l8:g<w8.heap.size:=HCL8.out.blk.lt;have HV8:=(HV7.out.below HW8.out);have y81:=HV8.cell 0 rfl;have y82:=HV8.cell 1 rfl;have l82:=HV8.lt;obtain⟨css,hc1,hc2,hc3,hc4⟩:=HCL8.out.own.row;have HCS:=h_ hc4;have HSN:Hid (wc.heap.size<=w8.heap.size):=h_ (Nat.le_trans HZr.out (Nat.le_trans HS7.out HW8.out.size));clear hw8 HV8 hif hc4)|(refine a0s rfl (.tmp 25) (.tmp 32) 51 rfl wc.heap.size 122 i0 _ 2 40 Tryz.underlying51 hi0 hz0 hz1 hz2 rfl (by omega) v3 M.length _ rfl (a0r hc3 (d_ w8 _)) ⟨w8.heap.size,0,none⟩ 1 1 [.slice a9 fcols.length m9,.string ⟨ftb.toArray⟩] rfl rfl (fun j u hj=>by rw[Addr.add_lit];exact(Blk.new w8 [.slice a9 fcols.length m9,.string ⟨ftb.toArray⟩] 122).cell _ (by simpa using hj)) (fun u hu=>by simp at hu;rcases hu with rfl|rfl<;>rfl) (by have:=HLL.out;unfold maxLen;omega) (by have:=HLL.out;omega) (Nat.le_trans HSN.out (by simp)) ?_;intro v9 w9 hrow hg9 hat9;have HN:=h_ (Cl.push (j:=3) HCL8.out hc1 hc2 HCS.out (d_ w8 _) rfl (show FrB w7.heap.size w8.heap.size _ (fun w'=>Rp Tryz.prog w' 122 [.slice a9 fcols.length m9,.string ⟨ftb.toArray⟩] (a2s ⟨fcols,ftb⟩)) from fun w2 hw2=>c1o w2 ⟨fcols,ftb⟩ _ (HIF.out w2 fun b b1 b2=>(hw2 b b1 b2).trans ((d_ w8 _).block b b2)) HSF.out) (Nat.le_trans HZr.out HS7.out) (by simp) (fun q e=>(HCL7.out.own.lt q e).2) hrow hg9 (by simpa using hat9) rfl);obtain⟨a10,c10,e10⟩:=HN.out.2.own.form;rw[List.length_append,List.length_singleton] at e10;subst e10;have y91:=HN.out.1.cell 3 rfl;have z91:=HN.out.1.free 3;clear hrow hg9 hat9 hc1 hc2 hc3))
    all_goals
     have HF:=h_ HN.out.2
     clear HN y80 y81 y82 l82
     go_wp2_with fail
     go_roundw
     case rel=>exact⟨k+1,_,by omega,by go_num,by rw[HM1.out,HT.out];exact HF.out⟩
     case measure=>simp[intOf];omega
   ·obtain rfl:k=Fs.length:=by omega
    rw[List.take_length] at HCL
    obtain⟨⟨A3,c3,e3⟩,hdn⟩:=HCL.out.done Tryz.underlying51 (by kernel_rfl) (by rw[List.length_map,show Tryz.prog.bytesOf 122=40 by kernel_rfl];unfold reachBytes;omega)
    rw[List.length_map] at e3
    subst e3
    have HST:Hid (Cl 53 w1.heap.size wr.heap.size w1 wr g (fun v=>[.string ⟨tn.toArray⟩,.slice b1 L.length q1,.slice b2 K.length q2,.slice A3 Fs.length c3,v]) 26 7 (.slice none 0 0) [] (fun w'=>(CL w' L (.slice b1 L.length q1)/\IL w' K (.slice b2 K.length q2))/\FL w' Fs (.slice A3 Fs.length c3))):=h_ (Cl.start HCL.out.blk hdn HCL.out.bel HCL.out.glo rfl)
    have d1:decide ((Fs.length:Int)<(Fs.length:Int))=false:=decide_eq_false (by omega)
    have r4:=HBxr.out.cell 4 rfl
    have lw:w.heap.size<wr.heap.size:=HBxr.out.lt
    have hn4:=HCN.out
    have HZ1:Hid (w1.heap.size<=wr.heap.size):=h_ HCL.out.bel.size
    clear hdn HCL r3 HBxr HXr
    go_wp2_with fail
    obtain⟨wq,hwq⟩:∃x,x=wr:=⟨_,rfl⟩
    subst hwq
    go_loopw [39] (fun v wl=>∃(i:Nat) (v4:Value),i<=Cs.length/\v=.int .i64 (i:Int)/\Cl 53 w1.heap.size wq.heap.size w1 wl g (fun v=>[.string ⟨tn.toArray⟩,.slice b1 L.length q1,.slice b2 K.length q2,.slice A3 Fs.length c3,v]) 26 7 v4 ((Cs.take i).map fun x=>toC (a0e (shX 0) x)) (fun w'=>(CL w' L (.slice b1 L.length q1)/\IL w' K (.slice b2 K.length q2))/\FL w' Fs (.slice A3 Fs.length c3))) (fun c _=>Cs.length - (intOf c).toNat)
    case atStart=>exact⟨0,_,Nat.zero_le _,rfl,HST.out⟩
    case round=>
     obtain⟨i,v4,hi,rfl,hcl⟩:=hrel
     have HCL:=h_ hcl
     have HWl:=h_ (HW1.out.trans (hcl.bel.mono (by have:=HGL.out;omega)))
     have HZl:Hid (wq.heap.size<=wr.heap.size):=h_ hcl.hB
     have hlg2:g<wr.heap.size:=hcl.blk.lt
     have HXl:=h_ (HX.out.below (hcl.bel))
     clear hcl
     by_cases hlt:i<Cs.length
     ·obtain⟨b,q,us,eq,hec,hkx,hrx⟩:=H4.out.ec hlt
      subst eq
      have hnx:=HXN.out _ (List.getElem_mem hkx)
      have HIK:=h_ fun(w':World) (hw':Below wr.heap.size wr w')=>b4N 0 Cs[i] us w' hnx (hrx.kept (HWl.out.trans (hw'.mono HWl.out.size)) (Nat.le_refl _))
      have HT:=h_ (b6L (a0e (shX 0)) hkx)
      have HLL:Hid (((Cs.take i).map fun x=>toC (a0e (shX 0) x)).length+1<=1000000):=h_ (by rw[List.length_map,List.length_take];omega)
      generalize hM1:((Cs.take (i+1)).map fun x=>toC (a0e (shX 0) x))=M1 at HT
      have HM1:=h_ hM1
      clear hM1 hnx
      generalize((Cs.take i).map fun x=>toC (a0e (shX 0) x))=M at HT HLL HCL
      generalize a0e (shX 0) Cs[i]=y at HT HIK
      generalize Cs[i]=xk at hrx
      obtain⟨eop,eint,evk,evi,evs,enm,el⟩:=xk
      obtain⟨ea,em,rfl,_⟩:=hrx.lits
      obtain⟨yop,yint,yvk,yvi,yvs,ynm,yl⟩:=y
      have HIQ:Hid (∀(w':World),Below wr.heap.size wr w'->Calls Tryz.prog 128 #[.agg #[.int .i64 eop,.int .i64 eint,.int .i64 evk,.int .i64 evi,.string ⟨evs.toArray⟩,.string ⟨enm.toArray⟩,.slice ea el.length em],.int .i64 0] w' (fun e w''=>∃ya ym,e=.returned (.agg #[.int .i64 yop,.int .i64 yint,.int .i64 yvk,.int .i64 yvi,.string ⟨yvs.toArray⟩,.string ⟨ynm.toArray⟩,.slice ya yl.length ym])/\XF w'.heap.size w''.heap.size w'' (.mk yop yint yvk yvi yvs ynm yl) [.int .i64 yop,.int .i64 yint,.int .i64 yvk,.int .i64 yvi,.string ⟨yvs.toArray⟩,.string ⟨ynm.toArray⟩,.slice ya yl.length ym]/\Below w'.heap.size w' w'')):=h_ fun w' hw'=>(HIK.out w' hw').mono fun e w'' hp=>by
       obtain⟨⟨ya,ym,h1,h2⟩,h3⟩:=hp
       exact⟨ya,ym,h1,h2,h3⟩
      have t0:=hec.at0 HWl.out rfl
      have t1:=hec.at_ HWl.out (j:=1) rfl
      have t2:=hec.at_ HWl.out (j:=2) rfl
      have t3:=hec.at_ HWl.out (j:=3) rfl
      have t4:=hec.at_ HWl.out (j:=4) rfl
      have t5:=hec.at_ HWl.out (j:=5) rfl
      have t6:=hec.at_ HWl.out (j:=6) rfl
      have d2:decide ((i:Int)<(Cs.length:Int))=true:=decide_eq_true (by omega)
      have k0:(0:Int)<=(i:Int):=by omega
      have k1:(i:Int)<(Cs.length:Int):=by omega
      have lb:b<wr.heap.size:=Nat.lt_of_lt_of_le hec.1 HWl.out.size
      clear hec hrx HIK r4
      go_upto_region 1 with(fail)
      refine nA fun w7 hV hw7 hz7=>?_
      have v0:=hV.cell 0 rfl
      have v1:=hV.cell 1 rfl
      have v2:=hV.cell 2 rfl
      have v3:=hV.cell 3 rfl
      have v4_:=hV.cell 4 rfl
      have v5:=hV.cell 5 rfl
      have v6:=hV.cell 6 rfl
      have hvl:=hV.lt
      have HCL7:=h_ (HCL.out.below hw7)
      have HW7:=h_ hw7
      have HS7:Hid (wr.heap.size<=w7.heap.size):=h_ hw7.size
      have g7:=HCL7.out.blk.cell 4 rfl
      have hgl7:=HCL7.out.blk.lt
      clear t0 t1 t2 t3 t4 t5 t6 hV hw7 hz7 HCL
      go_region_law (first|(go_simp;go_at_call 128;refine(HIQ.out _ (by first|exact Y_ HW7.out|exact HW7.out)).mono ?_;rintro e' w8 ⟨ya,ym,rfl,hxf,hw8⟩;have HW8:Hid (Below w7.heap.size w7 w8):=h_ (N_ hw8);have HXF:Hid (XF w7.heap.size w8.heap.size w8 (.mk yop yint yvk yvi yvs ynm yl) [.int .i64 yop,.int .i64 yint,.int .i64 yvk,.int .i64 yvi,.string ⟨yvs.toArray⟩,.string ⟨ynm.toArray⟩,.slice ya yl.length ym]):=h_ hxf;have HCL8:=h_ (HCL7.out.below HW8.out);have y80:=HCL8.out.blk.cell 4 rfl;have l8:g<w8.heap.size:=HCL8.out.blk.lt;obtain⟨css,hc1,hc2,hc3,hc4⟩:=HCL8.out.own.row;have HCS:=h_ hc4;have HSN:Hid (wq.heap.size<=w8.heap.size):=h_ (Nat.le_trans HZl.out (Nat.le_trans HS7.out HW8.out.size));clear hw8 hxf hc4)|(refine a0s rfl (.tmp 44) (.tmp 47) 24 rfl wq.heap.size 26 ix _ 7 88 Tryz.underlying24 hix hx0 hx1 hx2 rfl (by omega) v4 M.length _ rfl (a0r hc3 (d_ w8 _)) ⟨w8.heap.size,0,none⟩ 1 1 [.int .i64 yop,.int .i64 yint,.int .i64 yvk,.int .i64 yvi,.string ⟨yvs.toArray⟩,.string ⟨ynm.toArray⟩,.slice ya yl.length ym] rfl rfl (fun j u hj=>by rw[Addr.add_lit];exact(Blk.new w8 [.int .i64 yop,.int .i64 yint,.int .i64 yvk,.int .i64 yvi,.string ⟨yvs.toArray⟩,.string ⟨ynm.toArray⟩,.slice ya yl.length ym] 26).cell _ (by simpa using hj)) (fun u hu=>by simp at hu;rcases hu with rfl|rfl|rfl|rfl|rfl|rfl|rfl<;>rfl) (by have:=HLL.out;unfold maxLen;omega) (by have:=HLL.out;omega) (Nat.le_trans HSN.out (by simp)) ?_;intro v9 w9 hrow hg9 hat9;have HN:=h_ (Cl.push (j:=4) HCL8.out hc1 hc2 HCS.out (d_ w8 _) rfl (show FrB w7.heap.size w8.heap.size _ (fun w'=>Rp Tryz.prog w' 26 [.int .i64 yop,.int .i64 yint,.int .i64 yvk,.int .i64 yvi,.string ⟨yvs.toArray⟩,.string ⟨ynm.toArray⟩,.slice ya yl.length ym] (toC (.mk yop yint yvk yvi yvs ynm yl))) from fun w2 hw2=>HXF.out w2 fun b b1 b2=>(hw2 b b1 b2).trans ((d_ w8 _).block b b2)) (Nat.le_trans HZl.out HS7.out) (by simp) (fun q e=>(HCL7.out.own.lt q e).2) hrow hg9 (by simpa using hat9) rfl);obtain⟨a10,c10,e10⟩:=HN.out.2.own.form;rw[List.length_append,List.length_singleton] at e10;subst e10;have y91:=HN.out.1.cell 4 rfl;have z91:=HN.out.1.free 4;clear hrow hg9 hat9 hc1 hc2 hc3))
      all_goals
       have HF:=h_ HN.out.2
       clear HN y80
       go_wp2_with fail
       go_roundw
       case rel=>exact⟨i+1,_,by omega,by go_num,by rw[HM1.out,HT.out];exact HF.out⟩
       case measure=>simp[intOf];omega
     ·obtain rfl:i=Cs.length:=by omega
      rw[List.take_length] at HCL
      have d2:decide ((Cs.length:Int)<(Cs.length:Int))=false:=decide_eq_false (by omega)
      obtain⟨A5,c5,e5⟩:=HCL.out.own.form
      rw[List.length_map] at e5
      subst e5
      have s0:=HCL.out.blk.cell 0 rfl
      have s1:=HCL.out.blk.cell 1 rfl
      have s2:=HCL.out.blk.cell 2 rfl
      have s3:=HCL.out.blk.cell 3 rfl
      have s4:=HCL.out.blk.cell 4 rfl
      clear r4
      go_wp2_with (refine a2y rfl 53 (.tmp 2) (.tmp 51) rfl (w.heap.size+1) [.string ⟨tn.toArray⟩,.slice b1 L.length q1,.slice b2 K.length q2,.slice A3 Fs.length c3,.slice A5 Cs.length c5] rfl rfl 53 _ HXl.out (by kernel_rfl) rfl ?one ?_)
      case one=>
       intro u hu
       simp only[List.mem_cons,List.not_mem_nil,or_false] at hu
       rcases hu with rfl|rfl|rfl|rfl|rfl<;>rfl
      intro w6 hB6 hg6 hz6
      go_wp2_with fail
      refine bodyPost_ret (results_cell_row Tryz.results54 _ _ (w.heap.size+1) _ _ _ _ rfl hB6 Tryz.underlying53 rfl (by kernel_rfl)) rfl ?_
      have hglo:=HCL.out.glo
      have hgB:=HGL.out
      have hq1:=HCL.out.hB
      refine⟨⟨_,_,_,_,_,_,_,_,_,rfl,fun w2 hw2=>?_⟩,HWl.out.grown hg6 (by have:=HWl.out.size;omega) (fun q e=>by injection e with e;omega)⟩
      have hh:=HCL.out.fr w2 fun b c1 c2 c3=>(hw2 b (by omega) (by omega)).trans (hg6.block b (by omega) (by intro e;injection e with e;omega))
      exact⟨hh.1.1,hh.1.2,hh.2⟩
end Go.Proofs.YtlimlmjljjmcpaaGreatDoor.Px
