import Derived.Test.YtlimlmjljjmcpaaGreatDoorTsCr
import Derived.Test.YtlimlmjljjmcpaaGreatDoorTsZ
import Derived.Test.YtlimlmjljjmcpaaGreatDoorTsTx
import Derived.Test.YtlimlmjljjmcpaaGreatDoorTqX
import Derived.Test.YtlimlmjljjmcpaaGreatDoorTrX
set_option maxHeartbeats 16000000
set_option maxRecDepth 100000
namespace Go.Proofs.YtlimlmjljjmcpaaGreatDoor.Px
open Go Go.RowKit Go.Proofs.YtlimlmjljjmcpaaGreatDoor.Ps
set_option linter.unusedVariables false
set_option linter.unusedSimpArgs false
theorem b3U(L:List Col)(K:List Int)(Fs:List Fkey)(Cs:List X)(tn:S)(a a2 a3 a4:Option Addr)(m m2 m3 m4:Nat)(w:World)(hE:Env w)(ht:Ax.a0O w)(hL:L.length<=1000000)(hK:K.length<=1099511627776)(hfl:∀f∈Fs,f.cols.length<=1099511627776 /\ ∀c∈f.cols,-9223372036854775808<=c/\c<=9223372036854775807)(hcs:∀x∈Cs,nodes x<=2000/\D_ x)(h1:CL w L (.slice a L.length m))(h2:IL w K (.slice a2 K.length m2))(h3:FL w Fs (.slice a3 Fs.length m3))(h4:XL w Cs (.slice a4 Cs.length m4))(R:S × Int)(hy:a1D ⟨tn,L,K,Fs,Cs⟩->R=c1H tn L K Fs Cs)(hno:¬a1D ⟨tn,L,K,Fs,Cs⟩->R=([],8)):Calls Tryz.prog 20 #[.agg #[.string ⟨tn.toArray⟩,.slice a L.length m,.slice a2 K.length m2,.slice a3 Fs.length m3,.slice a4 Cs.length m4]] w (Ret w (a4c R)):=by
 obtain⟨Xs,hXs⟩:∃l,l=Cs.map (nmX L):=⟨_,rfl⟩
 have hXL:Xs.length=Cs.length:=by rw[hXs,List.length_map]
 have HXL:=h_ hXL
 have HCK:=h_ fun(w':World) (hw':Below w.heap.size w w')=>b0v L K Fs Cs tn a a2 a3 a4 m m2 m3 m4 w' hL hK (fun f hf=>(hfl f hf).1) (fun x hx=>⟨Nat.le_trans (hcs x hx).1 (by decide),(hcs x hx).2⟩) (h1.kept hw' (Nat.le_refl _)) (h2.kept hw' (Nat.le_refl _)) (h3.kept hw' (Nat.le_refl _)) (h4.kept hw' (Nat.le_refl _))
 have HCR:=h_ fun(f:TbFacts tn L K Fs Cs) (w':World) (hw':Below w.heap.size w w')=>(show Calls Tryz.prog 58 #[.agg #[.string ⟨tn.toArray⟩,.slice a L.length m,.slice a2 K.length m2,.slice a3 Fs.length m3,.slice a4 Cs.length m4]] w' (b9W w' tn L K Fs Xs) from hXs ▸ b4z L K Fs Cs tn a a2 a3 a4 m m2 m3 m4 w' hL (Nat.le_trans f.fors.1 (by decide)) (Nat.le_trans f.clen (by decide)) (fun x hx=>⟨Nat.le_trans (hcs x hx).1 (by decide),f.refs x hx⟩) (h1.kept hw' (Nat.le_refl _)) (h2.kept hw' (Nat.le_refl _)) (h3.kept hw' (Nat.le_refl _)) (h4.kept hw' (Nat.le_refl _)))
 have HFA:Hid (a1D ⟨tn,L,K,Fs,Cs⟩->(TbFacts tn L K Fs Cs /\ ∀x∈Xs,nodes x<=2000/\D_ x)/\R=a6Q Xs (Xs.all pOk) (a0n tn L K Fs Xs)):=h_ fun h=>⟨⟨TbFacts.of h hcs,by rw[hXs];exact(TbFacts.of h hcs).xs⟩,by rw[hy h,hXs];rfl⟩
 have HNO:=h_ hno
 have HE:=h_ hE
 have HTB:=h_ fun(w':World) (hw':Below w.heap.size w w')=>Ax.n_ ht hw'
 clear hno hy hcs h1 h2 h3 h4 hfl hE ht hXs hXL
 go_enter Tryz.func20,Tryz.ntmps20
 go_upto_region 1 with(fail)
 refine nA fun w1 hB hw1 hz1=>?_
 have HB:=h_ hB
 have HW:=h_ hw1
 clear hB hw1 hz1
 obtain⟨p0,p1,p2,p3,p4⟩:=HB.out.c5
 go_wp2_with fail
 refine(HCK.out w1 HW.out).mono ?_
 rintro e w2 ⟨q,rfl,hq,hw2⟩
 have HQ:=h_ hq
 have HW2:=t_ HW hw2
 have HB2:=h_ (HB.out.below hw2)
 clear hw2 hq p0 p1 p2 p3 p4 HCK
 by_cases h0:q=0
 ·obtain⟨HFT,HRE⟩:=HFA.out (HQ.out.1 h0)
  have HFT:=h_ HFT
  have HRE:=h_ HRE
  subst h0
  obtain⟨p0,p1,p2,p3,p4⟩:=HB2.out.c5
  go_wp2_with fail
  refine(HCR.out HFT.out.1 w2 HW2.out).mono ?_
  rintro e w3 ⟨⟨b1,q1,b2,q2,b3,q3,b4,q4,rfl,k1,k2,k3,k4⟩,hw3⟩
  have HW3:=t_ HW2 hw3
  clear hw3 p0 p1 p2 p3 p4 HCR
  have hf:=HFT.out.1
  have hfx:=HFT.out.2
  have hxl:Xs.length<=4:=by rw[HXL.out];exact hf.clen
  have HSC:=h_ (a8a L K Fs Xs tn b1 b2 b3 b4 q1 q2 q3 q4 w3 (HTB.out w3 HW3.out) (Nat.le_trans hxl (by decide)) (fun x hx=>Nat.le_trans (hfx x hx).1 (by decide)) (Nat.le_trans (a0a hf.nm).1 (by decide)) k1 k2 k3 k4 _ rfl (Xs.all pOk) (a0n tn L K Fs Xs)
   (fun w4 hw4=>a7Y L K Fs Xs tn b1 b2 b3 b4 q1 q2 q3 q4 w4 (HE.out.below (HW3.out.trans (hw4.mono HW3.out.size))) hf.nm hf.cols hf.key hf.fors (fun x hx=>⟨Nat.le_trans (hfx x hx).1 (by decide),(hfx x hx).2⟩) hxl (k1.kept hw4 (Nat.le_refl _)) (k2.kept hw4 (Nat.le_refl _)) (k3.kept hw4 (Nat.le_refl _)) (k4.kept hw4 (Nat.le_refl _)))
   (fun hb w4 hw4=>b1P L K Fs Xs tn b1 b2 b3 b4 q1 q2 q3 q4 w4 (HE.out.below (HW3.out.trans (hw4.mono HW3.out.size))) hf.nm hf.cols hf.key hf.fors (fun x hx=>⟨(hfx x hx).1,List.all_eq_true.1 hb x hx⟩) hxl (k1.kept hw4 (Nat.le_refl _)) (k2.kept hw4 (Nat.le_refl _)) (k3.kept hw4 (Nat.le_refl _)) (k4.kept hw4 (Nat.le_refl _))))
  clear k1 k2 k3 k4 hf hfx hxl
  have HRE2:Hid (a6Q Xs (Xs.all pOk) (a0n tn L K Fs Xs)=R):=h_ HRE.out.symm
  generalize a6Q Xs (Xs.all pOk) (a0n tn L K Fs Xs)=F at HSC HRE2
  obtain⟨f1,f2⟩:=F
  go_wp2_with fail
  refine HSC.out.mono ?_
  rintro e w4 ⟨rfl,hw4⟩
  have HW4:=t_ HW3 hw4
  clear hw4 HSC
  unfold a4c
  go_wp2_with fail
  go_ret2
  exact⟨by rw[<-HRE2.out];rfl,HW4.out⟩
 ·have HRE:=h_ (HNO.out fun h=>h0 (HQ.out.2 h))
  have d0:(q != 0)=true:=by simpa using h0
  clear h0
  go_wp2_with fail
  go_ret2
  exact⟨by rw[HRE.out];rfl,HW2.out⟩
end Go.Proofs.YtlimlmjljjmcpaaGreatDoor.Px
