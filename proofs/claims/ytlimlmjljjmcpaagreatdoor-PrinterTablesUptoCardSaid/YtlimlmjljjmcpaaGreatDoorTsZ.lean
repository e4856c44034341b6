import Derived.Test.YtlimlmjljjmcpaaGreatDoorTsX
import Derived.Test.YtlimlmjljjmcpaaGreatDoorPsX
import Derived.Test.YtlimlmjljjmcpaaGreatDoorTsY
set_option maxHeartbeats 16000000
set_option maxRecDepth 100000
namespace Go.Proofs.YtlimlmjljjmcpaaGreatDoor.Px
open Go Go.RowKit Go.Proofs.YtlimlmjljjmcpaaGreatDoor.Ps
set_option linter.unusedVariables false
set_option linter.unusedSimpArgs false
theorem b5S(tn:S)(a:Option Addr)(n m:Nat)(a2:Option Addr)(n2 m2:Nat)(a3:Option Addr)(n3 m3:Nat)(ax:Option Addr)(nx mx:Nat)(w:World)(cs:List Value)(hcs:cs=(stC (tbC tn a n m a2 n2 m2 a3 n3 m3) (.slice ax nx mx)))(Xs:List X)(hnx:nx=Xs.length)(hxl:Xs.length<=1000000)(hxn:∀x∈Xs,nodes x<=1152921504606846976)(ht:Ax.a0O w)(hv:XL w Xs (.slice ax nx mx)):Calls Tryz.prog 134 #[.agg cs.toArray] w (Ret w (.bool (dps Xs))):=by
 have HDQ:=h_ fun(w':World) (hw':Below w.heap.size w w')=>(show Calls Tryz.prog 215 #[.agg zQ.toArray] w' (Ret w' (.bool false)) from a7q (r0:=.lit (.bool false)) b7Y rfl rfl (a8b [] (none,0,0) (none,0,0) (none,0,0) (none,0,0)) (a2j _ _ _ _ _) w' (Ax.n_ ht hw'))
 have HDT:=h_ fun(w':World) (hw':Below w.heap.size w w')=>(show Calls Tryz.prog 214 #[.agg zQ.toArray] w' (Ret w' (.int .i64 1)) from a7q (r0:=.lit (.int .i64 1)) b7g rfl rfl (a8b [] (none,0,0) (none,0,0) (none,0,0) (none,0,0)) (a2j _ _ _ _ _) w' (Ax.n_ ht hw'))
 have HZ1:Hid (dps [X0]=false):=h_ rfl
 have HX1:=h_ fun(w':World) (hw':Below w.heap.size w w')=>a5A Xs ax mx w' hxl hxn (by rw[<-hnx];exact hv.kept hw' (Nat.le_refl _))
 have HXE:=h_ fun(w':World)=>a5A [] none 0 w' (by simp) (by simp) (Rp.nil Tryz.underlying24)
 have HXZ:=h_ fun(w':World) (b:Nat) (hb:Blk w' b [.int .i64 0,.int .i64 0,.int .i64 0,.int .i64 0,.string ⟨#[]⟩,.string ⟨#[]⟩,.slice none 0 0] 26)=>a5A [X0] (some ⟨b,0,none⟩) 1 w' (by simp) (by simp;decide) (c2d hb (b6q w'))
 subst hnx
 clear hv hxn ht
 generalize dps Xs=q at HX1 |-
 have HCS:Hid (cs=(stC (tbC tn a n m a2 n2 m2 a3 n3 m3) (.slice ax Xs.length mx))):=h_ hcs
 clear hcs
 go_enter Tryz.func134,Tryz.ntmps134
 go_wp2_with (refine a0G rfl 63 (.tmp 0) rfl cs rfl ?_)
 intro w1 hB hw1 hz1
 have HB:=h_ hB
 have HW:=h_ hw1
 clear hB hw1 hz1
 have HQR:Hid (w1.rangeAt w.heap.size 4 zQ):=h_ (by have h:=HB.out.part 4 23;rw[HCS.out] at h;exact h)
 go_wp2_with (refine T_ rfl (wpList_load_mid rfl 46 (.tmp 5) rfl w.heap.size 4 rfl zQ _ HQR.out Tryz.underlying46 rfl (by kernel_rfl) ?_))
 refine(HDT.out w1 HW.out).mono ?_
 rintro e w2 ⟨rfl,hw2⟩
 have HW2:=t_ HW hw2
 have HB2:=h_ (HB.out.below hw2)
 have HQ2:Hid (w2.rangeAt w.heap.size 4 zQ):=h_ (by have h:=HB2.out.part 4 23;rw[HCS.out] at h;exact h)
 clear hw2 HDT HQR
 go_wp2_with (refine T_ rfl (wpList_load_mid rfl 46 (.tmp 10) rfl w.heap.size 4 rfl zQ _ HQ2.out Tryz.underlying46 rfl (by kernel_rfl) ?_))
 refine(HDQ.out w2 HW2.out).mono ?_
 rintro e w3 ⟨rfl,hw3⟩
 have HW3:=t_ HW2 hw3
 have HB3:=h_ (HB2.out.below hw3)
 clear hw3 HDQ HQ2
 have z0:=HB3.out.cell 31 (u:=.int .i64 0) (by rw[HCS.out];rfl)
 have z1:=HB3.out.cell 32 (u:=.int .i64 0) (by rw[HCS.out];rfl)
 have z2:=HB3.out.cell 33 (u:=.int .i64 0) (by rw[HCS.out];rfl)
 have z3:=HB3.out.cell 34 (u:=.int .i64 0) (by rw[HCS.out];rfl)
 have z4:=HB3.out.cell 35 (u:=.string ⟨#[]⟩) (by rw[HCS.out];rfl)
 have z5:=HB3.out.cell 36 (u:=.string ⟨#[]⟩) (by rw[HCS.out];rfl)
 have z6:=HB3.out.cell 37 (u:=.slice none 0 0) (by rw[HCS.out];rfl)
 go_wp2_with fail
 refine(HXZ.out _ w3.heap.size (Blk.new w3 [.int .i64 0,.int .i64 0,.int .i64 0,.int .i64 0,.string ⟨#[]⟩,.string ⟨#[]⟩,.slice none 0 0] _)).mono ?_
 rw[HZ1.out]
 rintro e w4 ⟨rfl,hw4⟩
 have HW4:=h_ (HW3.out.trans (((d_ w3 _).trans (hw4.mono (by simp))).mono HW3.out.size))
 have HB4:=h_ ((HB3.out.below (d_ w3 _)).below hw4)
 clear hw4 HXZ z0 z1 z2 z3 z4 z5 z6
 have p43:=HB4.out.cell 43 (u:=.slice ax Xs.length mx) (by rw[HCS.out];rfl)
 go_wp2_with fail
 refine(HX1.out w4 HW4.out).mono ?_
 rintro e w5 ⟨rfl,hw5⟩
 have HW5:=t_ HW4 hw5
 have HB5:=h_ (HB4.out.below hw5)
 clear hw5 p43 HX1
 cases q with
 |true=>
  go_wp2_with fail
  go_ret
  exact⟨rfl,HW5.out⟩
 |false=>
  have p42:=HB5.out.cell 42 (u:=.slice none 0 0) (by rw[HCS.out];rfl)
  go_wp2_with fail
  refine(HXE.out w5).mono ?_
  rintro e w6 ⟨rfl,hw6⟩
  have HW6:=t_ HW5 hw6
  have HB6:=h_ (HB5.out.below hw6)
  clear hw6 p42
  go_upto_region 4 with(fail)
  go_loopw [3] (fun v wr=>v=.int .i64 0/\wr=w6) (fun _ _=>0)
  case atStart=>exact⟨rfl,rfl⟩
  case round=>
   obtain⟨rfl,hwr⟩:=hrel
   obtain rfl:=hwr
   have p28:=HB6.out.cell 28 (u:=.slice none 0 0) (by rw[HCS.out];rfl)
   have lp:w.heap.size<wr.heap.size:=HB6.out.lt
   go_upto_region 9 with(fail)
   obtain⟨wz,hwz⟩:∃x,x=wr:=⟨_,rfl⟩
   subst hwz
   clear p28 lp
   go_loopw [4] (fun v wr=>v=.int .i64 0/\wr=wz) (fun _ _=>0)
   case atStart=>exact⟨rfl,rfl⟩
   case round=>
    obtain⟨rfl,hwr⟩:=hrel
    obtain rfl:=hwr
    have p29:=HB6.out.cell 29 (u:=.slice none 0 0) (by rw[HCS.out];rfl)
    have lp:w.heap.size<wr.heap.size:=HB6.out.lt
    go_wp2_with fail
    go_ret
    exact⟨rfl,HW6.out⟩
theorem a8a(L:List Col)(K:List Int)(Fs:List Fkey)(Xs:List X)(tn:S)(a a2 a3 ax:Option Addr)(m m2 m3 mx:Nat)(w:World)(ht:Ax.a0O w)(hxl:Xs.length<=1000000)(hxn:∀x∈Xs,nodes x<=1152921504606846976)(hn:tn.length<=maxLen)(h1:CL w L (.slice a L.length m))(h2:IL w K (.slice a2 K.length m2))(h3:FL w Fs (.slice a3 Fs.length m3))(h4:XL w Xs (.slice ax Xs.length mx))(cs:List Value)(hcs:cs=stC (tbC tn a L.length m a2 K.length m2 a3 Fs.length m3) (.slice ax Xs.length mx))(b:Bool)(t:S)(hc:∀w':World,Below w.heap.size w w'->Calls Tryz.prog 224 #[.agg #[.string ⟨tn.toArray⟩,.slice a L.length m,.slice a2 K.length m2,.slice a3 Fs.length m3,.slice none 0 0],.slice ax Xs.length mx] w' (Ret w' (.bool b)))(hd:b=true -> ∀w':World,Below w.heap.size w w'->Calls Tryz.prog 230 #[.agg #[.string ⟨tn.toArray⟩,.slice a L.length m,.slice a2 K.length m2,.slice a3 Fs.length m3,.slice none 0 0],.slice ax Xs.length mx] w' (Ret w' (.string ⟨t.toArray⟩))):Calls Tryz.prog 57 #[.agg cs.toArray] w (Ret w (a4c (a6Q Xs b t))):=by
 have HLN:Hid (cs.length=60):=h_ (by rw[hcs];exact a1s _ _ rfl)
 have HDP:=h_ fun(w':World) (hw':Below w.heap.size w w')=>b5S tn a L.length m a2 K.length m2 a3 Fs.length m3 ax Xs.length mx w' cs hcs Xs rfl hxl hxn (Ax.n_ ht hw') (h4.kept hw' (Nat.le_refl _))
 have HVL:=h_ fun(w':World) (hw':Below w.heap.size w w')=>b1K L K Fs Xs tn a a2 a3 ax m m2 m3 mx w' (Ax.n_ ht hw') hn (h1.kept hw' (Nat.le_refl _)) (h2.kept hw' (Nat.le_refl _)) (h3.kept hw' (Nat.le_refl _)) (h4.kept hw' (Nat.le_refl _)) cs hcs b (fun w2 hw2=>hc w2 (hw'.trans (hw2.mono hw'.size)))
 have HST:=h_ fun(hb:b=true) (w':World) (hw':Below w.heap.size w w')=>a7X tn a L.length m a2 K.length m2 a3 Fs.length m3 ax Xs.length mx w' cs hcs t (fun w2 hw2=>hd hb w2 (hw'.trans (hw2.mono hw'.size)))
 have HFN:=h_ fun(w':World)=>b1B t w'
 have HR:Hid (a6Q Xs b t=if dps Xs then([],26) else if b then fin t else([],8)):=h_ rfl
 clear hc hd ht hn h1 h2 h3 h4 hxn
 generalize a6Q Xs b t=R at HR |-
 generalize dps Xs=q at HDP HR
 have HCS:Hid (cs=stC (tbC tn a L.length m a2 K.length m2 a3 Fs.length m3) (.slice ax Xs.length mx)):=h_ hcs
 clear hcs
 go_enter Tryz.func57,Tryz.ntmps57
 go_wp2_with (refine a0G rfl 63 (.tmp 0) rfl cs rfl ?_)
 intro w1 hB hw1 hz1
 have HB:=h_ hB
 have HW:=h_ hw1
 clear hB hw1 hz1
 go_wp2_with (refine T_ rfl (wpList_load_mid rfl 63 (.tmp 1) rfl w.heap.size 0 rfl cs _ HB.out.all Tryz.underlying63 rfl (by rw[HLN.out];kernel_rfl) ?_))
 refine(HDP.out w1 HW.out).mono ?_
 rintro e w2 ⟨rfl,hw2⟩
 have HW2:=t_ HW hw2
 have HB2:=h_ (HB.out.below hw2)
 clear hw2 HDP
 cases q with
 |true=>
  have HR2:Hid (R=([],26)):=h_ (by rw[HR.out];rfl)
  go_wp2_with fail
  go_ret2
  exact⟨by rw[HR2.out];rfl,HW2.out⟩
 |false=>
  have HR2:Hid (R=if b then fin t else([],8)):=h_ (by rw[HR.out];rfl)
  clear HR
  go_wp2_with (refine T_ rfl (wpList_load_mid rfl 63 (.tmp 1) rfl w.heap.size 0 rfl cs _ HB2.out.all Tryz.underlying63 rfl (by rw[HLN.out];kernel_rfl) ?_))
  refine(HVL.out w2 HW2.out).mono ?_
  rintro e w3 ⟨rfl,hw3⟩
  have HW3:=t_ HW2 hw3
  have HB3:=h_ (HB2.out.below hw3)
  clear hw3 HVL
  cases b with
  |false=>
   have HR3:Hid (R=([],8)):=h_ (by rw[HR2.out];rfl)
   go_wp2_with fail
   go_ret2
   exact⟨by rw[HR3.out];rfl,HW3.out⟩
  |true=>
   have HR3:Hid (R=fin t):=h_ (by rw[HR2.out];rfl)
   have HST2:=h_ (HST.out rfl)
   clear HST HR2
   go_wp2_with (refine T_ rfl (wpList_load_mid rfl 63 (.tmp 1) rfl w.heap.size 0 rfl cs _ HB3.out.all Tryz.underlying63 rfl (by rw[HLN.out];kernel_rfl) ?_))
   refine(HST2.out w3 HW3.out).mono ?_
   rintro e w4 ⟨rfl,hw4⟩
   have HW4:=t_ HW3 hw4
   clear hw4 HST2
   have HFT:=h_ (HFN.out w4)
   generalize fin t=F at HFT HR3
   obtain⟨f1,f2⟩:=F
   go_wp2_with fail
   refine HFT.out.mono ?_
   rintro e w10 ⟨rfl,hw10⟩
   have HW10:=t_ HW4 hw10
   clear hw10
   unfold a4c
   go_wp2_with fail
   go_ret2
   exact⟨by rw[HR3.out];rfl,HW10.out⟩
end Go.Proofs.YtlimlmjljjmcpaaGreatDoor.Px
