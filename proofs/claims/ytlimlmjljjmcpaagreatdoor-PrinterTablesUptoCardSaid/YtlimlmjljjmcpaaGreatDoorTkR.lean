import Derived.Test.YtlimlmjljjmcpaaGreatDoorTkCl
import Derived.Test.YtlimlmjljjmcpaaGreatDoorTmX
import Derived.Deep.DeepCutAuto
import Derived.Deep.CutBlock
import Derived.Test.YtlimlmjljjmcpaaGreatDoorTkX
import Derived.Test.YtlimlmjljjmcpaaGreatDoorTmY
set_option maxHeartbeats 16000000
set_option maxRecDepth 100000
namespace Go.Proofs.YtlimlmjljjmcpaaGreatDoor.Px
open Go Go.RowKit Go.Proofs.YtlimlmjljjmcpaaGreatDoor.Ps
set_option linter.unusedVariables false
set_option linter.unusedSimpArgs false
theorem b8P(c:Col):a6v (a5h c):=.inr ⟨_,rfl,fun x hx=>by
 simp only[List.mem_cons,List.not_mem_nil,or_false] at hx
 rcases hx with rfl|rfl|rfl<;>exact⟨_,rfl⟩⟩
theorem b4t(L:List Col)(K:List Int)(Fs:List Fkey)(Cs:List X)(tn:S)(a a2 a3 a4:Option Addr)(m m2 m3 m4:Nat)(w:World)(hF:Fs.length<=1000000)(hC:Cs.length<=1000000)(hX:∀x∈Cs,nodes x<=1000000)(h1:CL w L (.slice a L.length m))(h2:IL w K (.slice a2 K.length m2))(h3:FL w Fs (.slice a3 Fs.length m3))(h4:XL w Cs (.slice a4 Cs.length m4)):Calls Tryz.prog 137 #[.agg #[.string ⟨tn.toArray⟩,.slice a L.length m,.slice a2 K.length m2,.slice a3 Fs.length m3,.slice a4 Cs.length m4]] w (b6N w tn L K Fs):=by
 obtain⟨i0,hi0,hz0,hz1,hz2⟩:=info_parts a7Q
 obtain⟨ix,hix,hx0,hx1,hx2⟩:=info_parts a2e
 obtain⟨ic,hic,hc0,hc1,hc2⟩:=info_parts b9U
 obtain⟨ii,hii,hi1,hi2,hi3⟩:=info_parts b8L
 have H1:=h_ h1
 have H2:=h_ h2
 have H3:=h_ h3
 have H4:=h_ h4
 have HXN:=h_ hX
 have HFL:=h_ hF
 have HCN:=h_ hC
 clear h1 h2 h3 h4 hX hF hC
 go_enter Tryz.func137,Tryz.ntmps137
 go_upto_region 2 with(fail)
 refine a0X (K:=Code.wp _ _ _ _) fun w1 hB hX hT hw1 hsz1=>?_
 obtain⟨nv,hnv⟩:∃x,x=Value.slice none 0 0:=⟨_,rfl⟩
 have HT1:Hid (Blk w1 (w.heap.size+1+1) [.string ⟨tn.toArray⟩,nv,nv,.slice none 0 0,.slice none 0 0] 53):=h_ (by rw[hnv];exact hT)
 have HNV:=h_ hnv
 have e1:=hB.cell 1 rfl
 have n1:=HT1.out.cell 1 rfl
 have f1:=HT1.out.free 1
 have HX:=h_ hX
 have HSZ:=h_ hsz1
 have HBx:=h_ hB
 have HW1:=h_ hw1
 have l0:=hB.lt
 have l1:=hT.lt
 clear hX hsz1 hB hw1 hT hnv
 go_upto_region 3 with(at_builtin;refine a4q rfl (.tmp 11) (.tmp 13) 49 55 rfl ic _ 3 32 w1.heap.size Tryz.underlying49 hic hc0 hc1 hc2 rfl (by decide) (by kernel_rfl) (by kernel_rfl) nv rfl (by rw[HNV.out];exact World.ownsRow_nil _ _ _ _) (Nat.le_refl _) a L.length m rfl (L.map a5h) (H1.out.kept HW1.out (Nat.le_refl _)) (fun x hx=>by obtain⟨c,_,rfl⟩:=List.mem_map.1 hx;exact b8P c) ?_;intro b1 q1 w2 hr1 hg1;have hb1:Below w1.heap.size w1 w2:=(Below.refl _ w1).grown hg1 (Nat.le_refl _) (fun g e=>by rw[HNV.out] at e;cases e);have HR1:=h_ hr1;have HB1:=h_ hb1;have HT2:=h_ (HT1.out.below hb1);have n2:=HT2.out.cell 1 rfl;have f2:=HT2.out.free 1;clear hr1 hg1 hb1)
 refine a0p (K:=Code.wp _ _ _ _) HT2.out fun w3 hL3 hw3 hs3 ho3=>?_
 have HT3:=h_ hL3
 have HS3:Hid (w1.heap.size<=w3.heap.size):=h_ (by rw[hs3];exact HB1.out.size)
 have HB3:Hid (Below (w.heap.size+1+1) w1 w3):=h_ ((HB1.out.mono (by have:=HSZ.out;omega)).trans hw3)
 have HO3:=h_ ho3
 have HE3:=h_ hs3
 have e2:=(Blk.low HBx.out HB3.out (by omega)).cell 2 rfl
 have n3:=HT3.out.cell 2 rfl
 have f3:=HT3.out.free 2
 have l3:=HT3.out.lt
 have l4:w.heap.size<w3.heap.size:=by omega
 clear hL3 hw3 hs3 ho3 e1 n1 f1 n2 f2 l0 l1
 go_upto_region 4 with(at_builtin;refine a4q rfl (.tmp 17) (.tmp 19) 50 3 rfl ii _ 1 8 w3.heap.size Tryz.underlying50 hii hi1 hi2 hi3 rfl (by decide) (by kernel_rfl) (by kernel_rfl) nv rfl (by rw[HNV.out];exact World.ownsRow_nil _ _ _ _) (Nat.le_refl _) a2 K.length m2 rfl (K.map a6R) (H2.out.kept (HW1.out.trans (HB3.out.mono (by omega))) (Nat.le_refl _)) (fun x hx=>by obtain⟨c,_,rfl⟩:=List.mem_map.1 hx;exact .inl ⟨_,rfl⟩) ?_;intro b2 q2 w4 hr2 hg2;have hb4:Below w3.heap.size w3 w4:=(Below.refl _ w3).grown hg2 (Nat.le_refl _) (fun g e=>by rw[HNV.out] at e;cases e);have HR2:=h_ hr2;have HB4:=h_ hb4;have HT4:=h_ (HT3.out.below hb4);have n4:=HT4.out.cell 2 rfl;have f4:=HT4.out.free 2;clear hr2 hg2 hb4)
 refine a0p (K:=Code.wp _ _ _ _) HT4.out fun w5 hL5 hw5 hs5 ho5=>?_
 have HST:Hid (Cl 53 (w.heap.size+1+1) w5.heap.size w1 w5 (w.heap.size+1+1) (fun v=>[.string ⟨tn.toArray⟩,.slice b1 L.length q1,.slice b2 K.length q2,v,.slice none 0 0]) 122 2 (.slice none 0 0) [] (fun w'=>CL w' L (.slice b1 L.length q1)/\IL w' K (.slice b2 K.length q2))):=h_ (Cl.start hL5 (fun w' hw'=>by
  have k1:=HSZ.out
  have k2:=HB1.out.size
  have k3:=HB4.out.size
  have k4:=HE3.out
  exact⟨HR1.out w' fun b c1 c2=>(hw' b (by omega) (by omega) (by omega)).trans ((ho5 b (by omega)).trans ((HB4.out.block b (by omega)).trans (HO3.out b (by omega)))),HR2.out w' fun b c1 c2=>(hw' b (by omega) (by omega) (by omega)).trans (ho5 b (by omega))⟩) (HB3.out.trans ((HB4.out.mono (by omega)).trans hw5)) (Nat.le_refl _) rfl)
 clear hL5 hw5 hs5 ho5 n3 f3 n4 f4 e2 l3 l4 HR1 HR2 HB4 HT4 HB3 HO3 HE3 HT3 HB1 HT2 HT1 HNV
 have hn3:=HFL.out
 go_upto_region 5 with(fail)
 go_loopw [4] (fun v wr=>∃(k:Nat) (v3:Value),k<=Fs.length/\v=.int .i64 (k:Int)/\Cl 53 (w.heap.size+1+1) w5.heap.size w1 wr (w.heap.size+1+1) (fun v=>[.string ⟨tn.toArray⟩,.slice b1 L.length q1,.slice b2 K.length q2,v,.slice none 0 0]) 122 2 v3 ((Fs.take k).map a2s) (fun w'=>CL w' L (.slice b1 L.length q1)/\IL w' K (.slice b2 K.length q2))) (fun c _=>Fs.length - (intOf c).toNat)
 case atStart=>exact⟨0,_,Nat.zero_le _,rfl,HST.out⟩
 case round=>
  obtain⟨k,v3,hk,rfl,hcl⟩:=hrel
  have HCL:=h_ hcl
  have HWr:=h_ (HW1.out.trans (hcl.bel.mono (by omega)))
  have HZr:Hid (w5.heap.size<=wr.heap.size):=h_ hcl.hB
  have HBxr:=h_ (Blk.low HBx.out hcl.bel (by omega))
  have HXr:=h_ (Blk.low HX.out hcl.bel (by omega))
  have p3:=HBxr.out.cell 3 rfl
  have lp:w.heap.size<wr.heap.size:=HBxr.out.lt
  have hlg:w.heap.size+1+1<wr.heap.size:=hcl.blk.lt
  clear hcl
  by_cases hlt:k<Fs.length
  ·obtain⟨b,q,eq,hx,fb,fc,hec,hil,hsz⟩:=H3.out.get hlt
   subst eq
   have HT:=h_ (b6O hlt)
   have HLL:Hid (((Fs.take k).map a2s).length+1<=1000000):=h_ (by rw[List.length_map,List.length_take];omega)
   generalize hM1:(Fs.take (k+1)).map a2s=M1 at HT
   have HM1:=h_ hM1
   clear hM1
   generalize(Fs.take k).map a2s=M at HT HLL HCL
   generalize Fs[k]=F at HT hec hil hsz
   obtain⟨fcols,ftb⟩:=F
   dsimp only at hec hil hsz
   have HIL:=h_ hil
   have HSF:=h_ hsz
   have r0:=hec.at0 HWr.out rfl
   have r1:=hec.at_ HWr.out (j:=1) rfl
   have lb:b<wr.heap.size:=Nat.lt_of_lt_of_le hec.1 HWr.out.size
   have d1:decide ((k:Int)<(Fs.length:Int))=true:=decide_eq_true (by omega)
   have k0:(0:Int)<=(k:Int):=by omega
   have k1:(k:Int)<(Fs.length:Int):=by omega
   clear hec hil hsz
   go_upto_region 8 with(fail)
   refine nA fun w7 hV hw7 hz7=>?_
   have v0:=hV.cell 0 rfl
   have hvl:=hV.lt
   have HV7:=h_ hV
   have HW7:=h_ hw7
   have HS7:Hid (w7.heap.size=wr.heap.size+1):=h_ hz7
   have HK7:=h_ (HIL.out.kept (HWr.out.trans ((hw7.trans ((d_ w7 (.cells #[] 3)).mono hw7.size)).mono HWr.out.size)) (Nat.le_refl _))
   clear r0 r1 hV hw7 hz7 p3 lp
   go_upto_region 9 with(at_builtin;refine a4q rfl (.tmp 34) (.tmp 36) 50 3 rfl ii _ 1 8 w7.heap.size Tryz.underlying50 hii hi1 hi2 hi3 rfl (by decide) (by kernel_rfl) (by kernel_rfl) _ rfl (World.ownsRow_made w7 #[] 0 (Nat.le_refl _) (Nat.zero_le _) rfl) (by simp) fb fcols.length fc rfl (fcols.map a6R) HK7.out (fun x hx=>by obtain⟨c,_,rfl⟩:=List.mem_map.1 hx;exact .inl ⟨_,rfl⟩) ?_;intro a9 m9 w8 hr8 hg8;have hb8:Below w7.heap.size w7 w8:=(d_ w7 _).grown hg8 (by simp) (fun g e=>by have e2:some w7.heap.size=some g:=e;injection e2 with e2;omega);have HR8:=h_ hr8;have HB8:=h_ hb8;have HV8:=h_ (HV7.out.below hb8);have n8:=HV8.out.cell 0 rfl;have f8:=HV8.out.free 0;clear hr8 hg8 hb8)
   refine a0p (K:=Code.wp _ _ _ _) HV8.out fun w9 hL9 hw9 hs9 ho9=>?_
   have HBw:Hid (Below wr.heap.size wr w9):=h_ ((HW7.out.trans (HB8.out.mono HW7.out.size)).trans hw9)
   have HCL9:=h_ (HCL.out.below HBw.out)
   have HIF:Hid (IF w7.heap.size w9.heap.size w9 fcols (.slice a9 fcols.length m9)):=h_ (fun w' hw'=>HR8.out w' fun b c1 c2=>(hw' b c1 (by omega)).trans (ho9 b (by have:=HS7.out;omega)))
   have HSN:Hid (w5.heap.size<=w9.heap.size/\w7.heap.size<=w9.heap.size):=h_ (by have k1:=HZr.out;have k2:=HBw.out.size;have k3:=HB8.out.size;omega)
   have y9:=HCL9.out.blk.cell 3 rfl
   have l9:=HCL9.out.blk.lt
   have b0:=hL9.cell 0 rfl
   have b1_:=hL9.cell 1 rfl
   have lb9:=hL9.lt
   obtain⟨css,hc1_,hc2_,hc3_,hc4_⟩:=HCL9.out.own.row
   have HCS:=h_ hc4_
   have HC1:=h_ hc1_
   have HC2:=h_ hc2_
   have HC3:=h_ hc3_
   clear n8 f8 v0 hvl hL9 hw9 hs9 ho9 HV8 HR8 hc1_ hc2_ hc3_ hc4_ hlg
   go_wp2_with (at_builtin;refine wpList_append_own_at _ rfl (.tmp 40) (.tmp 42) 51 rfl w5.heap.size 122 i0 _ 2 40 Tryz.underlying51 hi0 hz0 hz1 hz2 rfl (by omega) v3 M.length _ rfl (a0r HC3.out (d_ w9 _)) ⟨w9.heap.size,0,none⟩ 1 1 [.slice a9 fcols.length m9,.string ⟨ftb.toArray⟩] rfl rfl (fun j u hj=>by rw[Addr.add_lit];exact(Blk.new w9 [.slice a9 fcols.length m9,.string ⟨ftb.toArray⟩] 122).cell _ (by simpa using hj)) (fun u hu=>by simp at hu;rcases hu with rfl|rfl<;>rfl) (by have:=HLL.out;unfold maxLen;omega) (by have:=HLL.out;omega) (Nat.le_trans HSN.out.1 (by simp)) ?_;intro v9 w10 hrow hg9 _ hat9;have HN:=h_ (Cl.push (j:=3) HCL9.out HC1.out HC2.out HCS.out (d_ w9 _) rfl (show FrB w7.heap.size w9.heap.size _ (fun w'=>Rp Tryz.prog w' 122 [.slice a9 fcols.length m9,.string ⟨ftb.toArray⟩] (a2s ⟨fcols,ftb⟩)) from fun w2 hw2=>c1o w2 ⟨fcols,ftb⟩ _ (HIF.out w2 fun b b1 b2=>(hw2 b b1 b2).trans ((d_ w9 _).block b b2)) HSF.out) (by have:=HZr.out;have:=HS7.out;omega) (by simp) (fun q e=>Nat.lt_of_lt_of_le (HCL.out.own.lt q e).2 (by have:=HS7.out;omega)) hrow hg9 (by simpa using hat9) rfl);obtain⟨a10,c10,e10⟩:=HN.out.2.own.form;rw[List.length_append,List.length_singleton] at e10;subst e10;have y91:=HN.out.1.cell 3 rfl;have z91:=HN.out.1.free 3;have l91:=HN.out.1.lt;clear hrow hg9 hat9 y9 b0 b1_)
   have HF:=h_ HN.out.2
   clear HN
   go_wp2_with fail
   go_roundw
   case rel=>exact⟨k+1,_,by omega,by go_num,by rw[HM1.out,HT.out];exact HF.out⟩
   case measure=>simp[intOf];omega
  ·obtain rfl:k=Fs.length:=by omega
   rw[List.take_length] at HCL
   obtain⟨⟨A3,c3,e3⟩,hdn⟩:=HCL.out.done Tryz.underlying51 (by kernel_rfl) (by rw[List.length_map,show Tryz.prog.bytesOf 122=40 by kernel_rfl];unfold reachBytes;omega)
   rw[List.length_map] at e3
   subst e3
   have HST:Hid (Cl 53 (w.heap.size+1+1) wr.heap.size w1 wr (w.heap.size+1+1) (fun v=>[.string ⟨tn.toArray⟩,.slice b1 L.length q1,.slice b2 K.length q2,.slice A3 Fs.length c3,v]) 26 7 (.slice none 0 0) [] (fun w'=>(CL w' L (.slice b1 L.length q1)/\IL w' K (.slice b2 K.length q2))/\FL w' Fs (.slice A3 Fs.length c3))):=h_ (Cl.start HCL.out.blk hdn HCL.out.bel HCL.out.glo rfl)
   have d1:decide ((Fs.length:Int)<(Fs.length:Int))=false:=decide_eq_false (by omega)
   have hn4:=HCN.out
   clear hdn HCL HBxr HXr
   obtain⟨wq,hwq⟩:∃x,x=wr:=⟨_,rfl⟩
   subst hwq
   go_upto_region 11 with(fail)
   go_loopw [6] (fun v wl=>∃(i:Nat) (v4:Value),i<=Cs.length/\v=.int .i64 (i:Int)/\Cl 53 (w.heap.size+1+1) wq.heap.size w1 wl (w.heap.size+1+1) (fun v=>[.string ⟨tn.toArray⟩,.slice b1 L.length q1,.slice b2 K.length q2,.slice A3 Fs.length c3,v]) 26 7 v4 ((Cs.take i).map fun x=>toC (a0e (shX 0) x)) (fun w'=>(CL w' L (.slice b1 L.length q1)/\IL w' K (.slice b2 K.length q2))/\FL w' Fs (.slice A3 Fs.length c3))) (fun c _=>Cs.length - (intOf c).toNat)
   case atStart=>exact⟨0,_,Nat.zero_le _,rfl,HST.out⟩
   case round=>
    obtain⟨i,v4,hi,rfl,hcl⟩:=hrel
    have HCL:=h_ hcl
    have HWl:=h_ (HW1.out.trans (hcl.bel.mono (by omega)))
    have HZl:Hid (wq.heap.size<=wr.heap.size):=h_ hcl.hB
    have HBxl:=h_ (Blk.low HBx.out hcl.bel (by omega))
    have p4:=HBxl.out.cell 4 rfl
    have lp4:w.heap.size<wr.heap.size:=HBxl.out.lt
    have hlg2:w.heap.size+1+1<wr.heap.size:=hcl.blk.lt
    have HXl:=h_ (Blk.low HX.out hcl.bel (by omega))
    have g7:=hcl.blk.cell 4 rfl
    clear hcl
    by_cases hlt:i<Cs.length
    ·obtain⟨b,q,us,eq,hec,hkx,hrx⟩:=H4.out.ec hlt
     subst eq
     have hnx:=HXN.out _ (List.getElem_mem hkx)
     have HIK:=h_ fun(w':World) (hw':Below wr.heap.size wr w')=>a7L 0 1000000 Cs[i] us w' hnx (Nat.le_refl _) (hrx.kept (HWl.out.trans (hw'.mono HWl.out.size)) (Nat.le_refl _))
     have HT:=h_ (b6L (a0e (shX 0)) hkx)
     have HLL:Hid (((Cs.take i).map fun x=>toC (a0e (shX 0) x)).length+1<=1000000):=h_ (by rw[List.length_map,List.length_take];omega)
     generalize hM1:((Cs.take (i+1)).map fun x=>toC (a0e (shX 0) x))=M1 at HT
     have HM1:=h_ hM1
     clear hM1 hnx
     generalize((Cs.take i).map fun x=>toC (a0e (shX 0) x))=M at HT HLL HCL
     generalize a0e (shX 0) Cs[i]=y at HT HIK
     generalize Cs[i]=xk at hrx
     obtain⟨eop,eint,evk,evi,evs,enm,el⟩:=xk
     obtain⟨ea,em,rfl,_⟩:=hrx.lits
     obtain⟨yop,yint,yvk,yvi,yvs,ynm,yl⟩:=y
     have HIQ:Hid (∀(w':World),Below wr.heap.size wr w'->Calls Tryz.prog 234 #[.agg #[.int .i64 eop,.int .i64 eint,.int .i64 evk,.int .i64 evi,.string ⟨evs.toArray⟩,.string ⟨enm.toArray⟩,.slice ea el.length em],.int .i64 0] w' (fun e w''=>∃ya ym,e=.returned (.agg #[.int .i64 yop,.int .i64 yint,.int .i64 yvk,.int .i64 yvi,.string ⟨yvs.toArray⟩,.string ⟨ynm.toArray⟩,.slice ya yl.length ym])/\XF w'.heap.size w''.heap.size w'' (.mk yop yint yvk yvi yvs ynm yl) [.int .i64 yop,.int .i64 yint,.int .i64 yvk,.int .i64 yvi,.string ⟨yvs.toArray⟩,.string ⟨ynm.toArray⟩,.slice ya yl.length ym]/\Below w'.heap.size w' w'')):=h_ fun w' hw'=>(HIK.out w' hw').mono fun e w'' hp=>by
      obtain⟨⟨ya,ym,h1,h2⟩,h3⟩:=hp
      exact⟨ya,ym,h1,h2,h3⟩
     obtain⟨t0,t1,t2,t3,t4,t5,t6⟩:=hec.c7 HWl.out
     have d2:decide ((i:Int)<(Cs.length:Int))=true:=decide_eq_true (by omega)
     have k0:(0:Int)<=(i:Int):=by omega
     have k1:(i:Int)<(Cs.length:Int):=by omega
     have lb:b<wr.heap.size:=Nat.lt_of_lt_of_le hec.1 HWl.out.size
     clear hec hrx HIK
     go_upto_block 3 with(fail)
     go_cut [] (fun wx=>∃v9,Cl 53 (w.heap.size+1+1) wq.heap.size w1 wx (w.heap.size+1+1) (fun v=>[.string ⟨tn.toArray⟩,.slice b1 L.length q1,.slice b2 K.length q2,.slice A3 Fs.length c3,v]) 26 7 v9 M1 (fun w'=>(CL w' L (.slice b1 L.length q1)/\IL w' K (.slice b2 K.length q2))/\FL w' Fs (.slice A3 Fs.length c3)))
     case first=>
      go_upto_region 13 with(fail)
      go_region_law (first|(go_simp;go_at_call 234;refine(HIQ.out _ (Y_ (Below.refl _ _))).mono ?_;rintro e' w8 ⟨ya,ym,rfl,hxf,hw8⟩;have HW8:Hid (Below wr.heap.size wr w8):=h_ (N_ hw8);have HXF:Hid (XF wr.heap.size w8.heap.size w8 (.mk yop yint yvk yvi yvs ynm yl) [.int .i64 yop,.int .i64 yint,.int .i64 yvk,.int .i64 yvi,.string ⟨yvs.toArray⟩,.string ⟨ynm.toArray⟩,.slice ya yl.length ym]):=h_ hxf;have HCL8:=h_ (HCL.out.below HW8.out);have y80:=HCL8.out.blk.cell 4 rfl;have l8:w.heap.size+1+1<w8.heap.size:=HCL8.out.blk.lt;obtain⟨css,hc1,hc2,hc3,hc4⟩:=HCL8.out.own.row;have HCS:=h_ hc4;have HSN:Hid (wq.heap.size<=w8.heap.size):=h_ (Nat.le_trans HZl.out HW8.out.size);clear hw8 hxf hc4)|(refine a0s rfl (.tmp 53) (.tmp 60) 24 rfl wq.heap.size 26 ix _ 7 88 Tryz.underlying24 hix hx0 hx1 hx2 rfl (by omega) v4 M.length _ rfl (a0r hc3 (d_ w8 _)) ⟨w8.heap.size,0,none⟩ 1 1 [.int .i64 yop,.int .i64 yint,.int .i64 yvk,.int .i64 yvi,.string ⟨yvs.toArray⟩,.string ⟨ynm.toArray⟩,.slice ya yl.length ym] rfl rfl (fun j u hj=>by rw[Addr.add_lit];exact(Blk.new w8 [.int .i64 yop,.int .i64 yint,.int .i64 yvk,.int .i64 yvi,.string ⟨yvs.toArray⟩,.string ⟨ynm.toArray⟩,.slice ya yl.length ym] 26).cell _ (by simpa using hj)) (fun u hu=>by simp at hu;rcases hu with rfl|rfl|rfl|rfl|rfl|rfl|rfl<;>rfl) (by have:=HLL.out;unfold maxLen;omega) (by have:=HLL.out;omega) (Nat.le_trans HSN.out (by simp)) ?_;intro v9 w9 hrow hg9 hat9;have HN:=h_ (Cl.push (j:=4) HCL8.out hc1 hc2 HCS.out (d_ w8 _) rfl (show FrB wr.heap.size w8.heap.size _ (fun w'=>Rp Tryz.prog w' 26 [.int .i64 yop,.int .i64 yint,.int .i64 yvk,.int .i64 yvi,.string ⟨yvs.toArray⟩,.string ⟨ynm.toArray⟩,.slice ya yl.length ym] (toC (.mk yop yint yvk yvi yvs ynm yl))) from fun w2 hw2=>HXF.out w2 fun b b1 b2=>(hw2 b b1 b2).trans ((d_ w8 _).block b b2)) HZl.out (by simp) (fun q e=>(HCL.out.own.lt q e).2) hrow hg9 (by simpa using hat9) rfl);obtain⟨a10,c10,e10⟩:=HN.out.2.own.form;rw[List.length_append,List.length_singleton] at e10;subst e10;have y91:=HN.out.1.cell 4 rfl;have z91:=HN.out.1.free 4;clear hrow hg9 hat9 hc1 hc2 hc3))
      all_goals
       have HF:=h_ HN.out.2
       clear HN y80
       go_wp2_with fail
       go_meet
       exact⟨_,by rw[HT.out];exact HF.out⟩
     case rest=>
      obtain⟨v9,hcl9⟩:=hcut
      have HF:=h_ hcl9
      clear hcl9 t0 t1 t2 t3 t4 t5 t6 HIQ
      go_wp2_with fail
      go_roundw
      case rel=>exact⟨i+1,_,by omega,by go_num,by rw[HM1.out];exact HF.out⟩
      case measure=>simp[intOf];omega
    ·obtain rfl:i=Cs.length:=by omega
     rw[List.take_length] at HCL
     have d2:decide ((Cs.length:Int)<(Cs.length:Int))=false:=decide_eq_false (by omega)
     obtain⟨A5,c5,e5⟩:=HCL.out.own.form
     rw[List.length_map] at e5
     subst e5
     obtain⟨s0,s1,s2,s3,s4⟩:=HCL.out.blk.c5
     go_wp2_with (refine a2y rfl 53 (.tmp 2) (.tmp 63) rfl (w.heap.size+1) [.string ⟨tn.toArray⟩,.slice b1 L.length q1,.slice b2 K.length q2,.slice A3 Fs.length c3,.slice A5 Cs.length c5] rfl rfl 53 _ HXl.out (by kernel_rfl) rfl ?one ?_)
     case one=>
      intro u hu
      simp only[List.mem_cons,List.not_mem_nil,or_false] at hu
      rcases hu with rfl|rfl|rfl|rfl|rfl<;>rfl
     intro w6 hB6 hg6 hz6
     go_wp2_with fail
     refine bodyPost_ret (results_cell_row Tryz.results137 _ _ (w.heap.size+1) _ _ _ _ rfl hB6 Tryz.underlying53 rfl (by kernel_rfl)) rfl ?_
     have hq1:=HCL.out.hB
     have hq2:=HCL.out.ghi
     refine⟨⟨_,_,_,_,_,_,_,_,_,rfl,fun w2 hw2=>?_⟩,HWl.out.grown hg6 (by have:=HWl.out.size;omega) (fun q e=>by injection e with e;omega)⟩
     have hh:=HCL.out.fr w2 fun b c1 c2 c3=>(hw2 b (by omega) (by omega)).trans (hg6.block b (by omega) (by intro e;injection e with e;omega))
     exact⟨hh.1.1,hh.1.2,hh.2⟩
end Go.Proofs.YtlimlmjljjmcpaaGreatDoor.Px
