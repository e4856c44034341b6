import Derived.Test.YtlimlmjljjmcpaaGreatDoorTsX
import Derived.Test.YtlimlmjljjmcpaaGreatDoorPsX
import Derived.Test.YtlimlmjljjmcpaaGreatDoorPxLaw
import Derived.Test.YtlimlmjljjmcpaaGreatDoorPxB
import Derived.Test.YtlimlmjljjmcpaaGreatDoorPxA
set_option maxHeartbeats 16000000
set_option maxRecDepth 100000
namespace Go.Proofs.YtlimlmjljjmcpaaGreatDoor.Px
open Go Go.RowKit Go.Proofs.YtlimlmjljjmcpaaGreatDoor.Ps
set_option linter.unusedVariables false
set_option linter.unusedSimpArgs false
open Ax in
def b9j:RV->Bool
 |.agg l=>l.all okR
 |.clo _ [] []=>true
 |r=>okR r
open Ax in
def b5k(env:Nat->Value):RV->Value
 |.agg l=>.agg (l.map (shV env)).toArray
 |.clo f [] []=>.func (.func f) #[] #[]
 |r=>shV env r
open Ax in
theorem c1O{g:Gm}{env:Nat->Value}(h1:∀i,(env i).cells=#[env i]/\(env i).oneCell'=true){r:RV}(h:b9j r=true):R g env r (b5k env r):=by
 unfold b9j at h
 split at h
 ·exact b9z h1 h
 ·exact .clo (us:=#[]) (vs:=#[]) rfl (fun i k=>absurd k (by simp)) rfl (fun i k=>absurd k (by simp))
 ·rename_i a b
  have:b5k env r=shV env r:=by
   unfold b5k
   split
   ·exact absurd rfl (a _)
   ·exact absurd rfl (b _)
   ·rfl
  rw[this]
  exact c1u h1 h
open Ax in
theorem a7j{d:Nat}{f:FuncId}{args:List RV}{r0:RV}(hr:isO r0 (a0y Tryz.prog a0Y (a0E Tryz.prog) d (.fn f) args .leaf 0)=true)(hA:args.all b9j=true)(h0:okR r0=true)(env:Nat->Value)(h1:∀i,(env i).cells=#[env i]/\(env i).oneCell'=true)(w:World)(ht:a0O w):Calls Tryz.prog f (args.map (b5k env)).toArray w (Ret w (shV env r0)):=by
 generalize hx:a0y Tryz.prog a0Y (a0E Tryz.prog) d (.fn f) args .leaf 0=x at hr
 match x,hr with
 |some (.ret r,h',nx'),hr=>
  have e:=a6m (show a1w r r0=true from hr)
  subst e
  refine a4r (a6j Tryz.prog) hx env (args.map (b5k env)) ⟨by simp,fun i k1 k2=>?_⟩ w ht trivial _ fun g v w' k1 _ k3=>?_
  ·have e:(args.map (b5k env))[i]=b5k env args[i]:=by simp
   rw[e]
   exact c1O h1 (List.all_eq_true.1 hA _ (List.getElem_mem k1))
  ·exact⟨by rw[b5v h0 k1],k3⟩
def b1E:Nat->Value:=fun _=>.int .i64 0
theorem a3t(i:Nat):(b1E i).cells=#[b1E i]/\(b1E i).oneCell'=true:=⟨rfl,rfl⟩
open Ax in
def zeR:List RV:=[.lit (.int .i64 0),.lit (.int .i64 0),.lit (.int .i64 0),.lit (.int .i64 0),.str [],.str [],.lit (.slice none 0 0)]
theorem c2N:isO (.lit (.bool true)) (Ax.a0y Tryz.prog Ax.a0Y (Ax.a0E Tryz.prog) 60 (.fn 32) [.agg zeR,.agg zeR] .leaf 0)=true:=by kernel_rfl
theorem c2B:isO (.lit (.bool true)) (Ax.a0y Tryz.prog Ax.a0Y (Ax.a0E Tryz.prog) 60 (.fn 33) [.agg zqR,.agg zqR] .leaf 0)=true:=by kernel_rfl
theorem c2M:isO (.lit (.bool true)) (Ax.a0y Tryz.prog Ax.a0Y (Ax.a0E Tryz.prog) 60 (.fn 35) [.lit (.slice none 0 0),.lit (.slice none 0 0),.clo 36 [] []] .leaf 0)=true:=by kernel_rfl
theorem c2x:isO (.lit (.bool true)) (Ax.a0y Tryz.prog Ax.a0Y (Ax.a0E Tryz.prog) 60 (.fn 37) [.lit (.slice none 0 0),.lit (.slice none 0 0),.clo 38 [] []] .leaf 0)=true:=by kernel_rfl
theorem c2V:isO (.lit (.bool true)) (Ax.a0y Tryz.prog Ax.a0Y (Ax.a0E Tryz.prog) 60 (.fn 17) [.agg zeR,.agg zeR] .leaf 0)=true:=by kernel_rfl
theorem c2y:isO (.lit (.bool true)) (Ax.a0y Tryz.prog Ax.a0Y (Ax.a0E Tryz.prog) 60 (.fn 89) [.agg zqR,.agg zqR] .leaf 0)=true:=by kernel_rfl
theorem b4H(L:List Col)(K:List Int)(Fs:List Fkey)(Xs:List X)(tn:S)(a a2 a3 ax:Option Addr)(m m2 m3 mx:Nat)(w:World)(ht:Ax.a0O w)(hn:tn.length<=maxLen)(h1:CL w L (.slice a L.length m))(h2:IL w K (.slice a2 K.length m2))(h3:FL w Fs (.slice a3 Fs.length m3))(h4:XL w Xs (.slice ax Xs.length mx))(cs:List Value)(hcs:cs=stC (tbC tn a L.length m a2 K.length m2 a3 Fs.length m3) (.slice ax Xs.length mx)):Calls Tryz.prog 12 #[.agg cs.toArray,.agg cs.toArray] w (Ret w (.bool true)):=by
 have HE1:=h_ fun(w':World) (hw':Below w.heap.size w w')=>(show Calls Tryz.prog 32 #[.agg #[.int .i64 0,.int .i64 0,.int .i64 0,.int .i64 0,.string ⟨#[]⟩,.string ⟨#[]⟩,.slice none 0 0],.agg #[.int .i64 0,.int .i64 0,.int .i64 0,.int .i64 0,.string ⟨#[]⟩,.string ⟨#[]⟩,.slice none 0 0]] w' (Ret w' (.bool true)) from a7j (r0:=.lit (.bool true)) c2N rfl rfl b1E a3t w' (Ax.n_ ht hw'))
 have HQ1:=h_ fun(w':World) (hw':Below w.heap.size w w')=>(show Calls Tryz.prog 33 #[.agg zQ.toArray,.agg zQ.toArray] w' (Ret w' (.bool true)) from a7j (r0:=.lit (.bool true)) c2B rfl rfl b1E a3t w' (Ax.n_ ht hw'))
 have HR1:=h_ fun(w':World) (hw':Below w.heap.size w w')=>(show Calls Tryz.prog 35 #[.slice none 0 0,.slice none 0 0,.func (.func 36) #[] #[]] w' (Ret w' (.bool true)) from a7j (r0:=.lit (.bool true)) c2M rfl rfl b1E a3t w' (Ax.n_ ht hw'))
 have HS1:=h_ fun(w':World) (hw':Below w.heap.size w w')=>(show Calls Tryz.prog 37 #[.slice none 0 0,.slice none 0 0,.func (.func 38) #[] #[]] w' (Ret w' (.bool true)) from a7j (r0:=.lit (.bool true)) c2x rfl rfl b1E a3t w' (Ax.n_ ht hw'))
 have HT1:=h_ fun(w':World) (hw':Below w.heap.size w w')=>(show Calls Tryz.prog 34 #[.agg #[.string ⟨tn.toArray⟩,.slice a L.length m,.slice a2 K.length m2,.slice a3 Fs.length m3,.slice none 0 0],.agg #[.string ⟨tn.toArray⟩,.slice a L.length m,.slice a2 K.length m2,.slice a3 Fs.length m3,.slice none 0 0]] w' (Ret w' (.bool true)) from by
  obtain⟨x,hx⟩:=b6r (Xs:=Xs) (ax:=ax) (mx:=mx) hn (h1.kept hw' (Nat.le_refl _)) (h2.kept hw' (Nat.le_refl _)) (h3.kept hw' (Nat.le_refl _))
  refine(b4T _ x x _ _ w' (Nat.le_refl _) hx hx).mono ?_
  rintro e w2 ⟨rfl,hb⟩
  exact⟨by rw[z_.2 rfl],hb⟩)
 have HC1:=h_ fun(w':World) (hw':Below w.heap.size w w')=>(show Calls Tryz.prog 39 #[.slice ax Xs.length mx,.slice ax Xs.length mx,.func (.func 32) #[] #[]] w' (Ret w' (.bool true)) from by
  have hx:=h4.kept hw' (Nat.le_refl _)
  refine(a9M _ (a7b _) (a1Q Xs) (a1Q Xs) (fun x hx=>Nat.le_of_lt (List.sizeOf_lt_of_mem hx)) ax ax Xs.length mx Xs.length mx w' hx hx).mono ?_
  rintro e w2 ⟨rfl,hb⟩
  exact⟨by rw[z_.2 rfl],hb⟩)
 have HLN:Hid (cs.length=60):=h_ (by rw[hcs];exact a1s _ _ rfl)
 have HCS:Hid (cs=stC (tbC tn a L.length m a2 K.length m2 a3 Fs.length m3) (.slice ax Xs.length mx)):=h_ hcs
 clear hcs ht hn h1 h2 h3 h4
 go_enter Tryz.func12,Tryz.ntmps12
 go_wp2_with (refine a0G rfl 63 (.tmp 0) rfl cs rfl ?_)
 intro w1 hA hw1 hz1
 go_wp2_with (refine a0G rfl 63 (.tmp 1) rfl cs rfl ?_)
 intro w2 hB hw2 hz2
 rw[<-hz1] at hw2
 have HW:=h_ (hw1.trans (hw2.mono hw1.size))
 have HA:=h_ (hA.below hw2)
 have HB:=h_ hB
 have la:=HA.out.lt
 have lb:=hB.lt
 clear hA hB hw1 hw2 hz1 hz2
 have p0:=HA.out.cell 0 (u:=.int .i64 5) (by rw[HCS.out];rfl)
 have q0:=HB.out.cell 0 (u:=.int .i64 5) (by rw[HCS.out];rfl)
 have p1:=HA.out.cell 1 (u:=.int .i64 0) (by rw[HCS.out];rfl)
 have q1:=HB.out.cell 1 (u:=.int .i64 0) (by rw[HCS.out];rfl)
 have p2:=HA.out.cell 2 (u:=.int .i64 0) (by rw[HCS.out];rfl)
 have q2:=HB.out.cell 2 (u:=.int .i64 0) (by rw[HCS.out];rfl)
 have p3:=HA.out.cell 3 (u:=.int .i64 0) (by rw[HCS.out];rfl)
 have q3:=HB.out.cell 3 (u:=.int .i64 0) (by rw[HCS.out];rfl)
 have p27:=HA.out.cell 27 (u:=.string ⟨#[]⟩) (by rw[HCS.out];rfl)
 have q27:=HB.out.cell 27 (u:=.string ⟨#[]⟩) (by rw[HCS.out];rfl)
 have p30:=HA.out.cell 30 (u:=.bool false) (by rw[HCS.out];rfl)
 have q30:=HB.out.cell 30 (u:=.bool false) (by rw[HCS.out];rfl)
 have p44:=HA.out.cell 44 (u:=.int .i64 0) (by rw[HCS.out];rfl)
 have q44:=HB.out.cell 44 (u:=.int .i64 0) (by rw[HCS.out];rfl)
 have p45:=HA.out.cell 45 (u:=.string ⟨#[]⟩) (by rw[HCS.out];rfl)
 have q45:=HB.out.cell 45 (u:=.string ⟨#[]⟩) (by rw[HCS.out];rfl)
 have p46:=HA.out.cell 46 (u:=.string ⟨#[]⟩) (by rw[HCS.out];rfl)
 have q46:=HB.out.cell 46 (u:=.string ⟨#[]⟩) (by rw[HCS.out];rfl)
 have p47:=HA.out.cell 47 (u:=.string ⟨#[]⟩) (by rw[HCS.out];rfl)
 have q47:=HB.out.cell 47 (u:=.string ⟨#[]⟩) (by rw[HCS.out];rfl)
 have p48:=HA.out.cell 48 (u:=.int .i64 0) (by rw[HCS.out];rfl)
 have q48:=HB.out.cell 48 (u:=.int .i64 0) (by rw[HCS.out];rfl)
 have p49:=HA.out.cell 49 (u:=.bool false) (by rw[HCS.out];rfl)
 have q49:=HB.out.cell 49 (u:=.bool false) (by rw[HCS.out];rfl)
 have p50:=HA.out.cell 50 (u:=.int .i64 0) (by rw[HCS.out];rfl)
 have q50:=HB.out.cell 50 (u:=.int .i64 0) (by rw[HCS.out];rfl)
 have p51:=HA.out.cell 51 (u:=.int .i64 0) (by rw[HCS.out];rfl)
 have q51:=HB.out.cell 51 (u:=.int .i64 0) (by rw[HCS.out];rfl)
 have p52:=HA.out.cell 52 (u:=.string ⟨#[]⟩) (by rw[HCS.out];rfl)
 have q52:=HB.out.cell 52 (u:=.string ⟨#[]⟩) (by rw[HCS.out];rfl)
 have p53:=HA.out.cell 53 (u:=.string ⟨#[]⟩) (by rw[HCS.out];rfl)
 have q53:=HB.out.cell 53 (u:=.string ⟨#[]⟩) (by rw[HCS.out];rfl)
 have p54:=HA.out.cell 54 (u:=.string ⟨#[]⟩) (by rw[HCS.out];rfl)
 have q54:=HB.out.cell 54 (u:=.string ⟨#[]⟩) (by rw[HCS.out];rfl)
 have p55:=HA.out.cell 55 (u:=.int .i64 0) (by rw[HCS.out];rfl)
 have q55:=HB.out.cell 55 (u:=.int .i64 0) (by rw[HCS.out];rfl)
 have p56:=HA.out.cell 56 (u:=.int .i64 0) (by rw[HCS.out];rfl)
 have q56:=HB.out.cell 56 (u:=.int .i64 0) (by rw[HCS.out];rfl)
 have p57:=HA.out.cell 57 (u:=.int .i64 0) (by rw[HCS.out];rfl)
 have q57:=HB.out.cell 57 (u:=.int .i64 0) (by rw[HCS.out];rfl)
 have p58:=HA.out.cell 58 (u:=.int .i64 0) (by rw[HCS.out];rfl)
 have q58:=HB.out.cell 58 (u:=.int .i64 0) (by rw[HCS.out];rfl)
 have p59:=HA.out.cell 59 (u:=.int .i64 0) (by rw[HCS.out];rfl)
 have q59:=HB.out.cell 59 (u:=.int .i64 0) (by rw[HCS.out];rfl)
 go_upto_region 3 with(fail)
 clear p0 q0 p1 q1 p2 q2 p3 q3 p27 q27 p30 q30 p44 q44 p45 q45 p46 q46 p47 q47 p48 q48 p49 q49 p50 q50 p51 q51 p52 q52 p53 q53 p54 q54 p55 q55 p56 q56 p57 q57 p58 q58 p59 q59
 have p31:=HA.out.cell 31 (u:=.int .i64 0) (by rw[HCS.out];rfl)
 have q31:=HB.out.cell 31 (u:=.int .i64 0) (by rw[HCS.out];rfl)
 have p32:=HA.out.cell 32 (u:=.int .i64 0) (by rw[HCS.out];rfl)
 have q32:=HB.out.cell 32 (u:=.int .i64 0) (by rw[HCS.out];rfl)
 have p33:=HA.out.cell 33 (u:=.int .i64 0) (by rw[HCS.out];rfl)
 have q33:=HB.out.cell 33 (u:=.int .i64 0) (by rw[HCS.out];rfl)
 have p34:=HA.out.cell 34 (u:=.int .i64 0) (by rw[HCS.out];rfl)
 have q34:=HB.out.cell 34 (u:=.int .i64 0) (by rw[HCS.out];rfl)
 have p35:=HA.out.cell 35 (u:=.string ⟨#[]⟩) (by rw[HCS.out];rfl)
 have q35:=HB.out.cell 35 (u:=.string ⟨#[]⟩) (by rw[HCS.out];rfl)
 have p36:=HA.out.cell 36 (u:=.string ⟨#[]⟩) (by rw[HCS.out];rfl)
 have q36:=HB.out.cell 36 (u:=.string ⟨#[]⟩) (by rw[HCS.out];rfl)
 have p37:=HA.out.cell 37 (u:=.slice none 0 0) (by rw[HCS.out];rfl)
 have q37:=HB.out.cell 37 (u:=.slice none 0 0) (by rw[HCS.out];rfl)
 go_wp2_with fail
 refine(HE1.out w2 HW.out).mono ?_
 rintro e w3 ⟨rfl,hw3⟩
 have HW3:=t_ HW hw3
 have HA3:=h_ (HA.out.below hw3)
 have HB3:=h_ (HB.out.below hw3)
 clear hw3 p31 q31 p32 q32 p33 q33 p34 q34 p35 q35 p36 q36 p37 q37 HE1 la lb
 have la:=HA3.out.lt
 have lb:=HB3.out.lt
 have HQA:Hid (w3.rangeAt w.heap.size 4 zQ):=h_ (by have h:=HA3.out.part 4 23;rw[HCS.out] at h;exact h)
 have HQB:Hid (w3.rangeAt (w.heap.size+1) 4 zQ):=h_ (by have h:=HB3.out.part 4 23;rw[HCS.out] at h;exact h)
 go_wp2_with (first|(refine T_ rfl (wpList_load_mid rfl 46 (.tmp 65) rfl (w.heap.size) 4 rfl zQ _ HQA.out Tryz.underlying46 rfl (by kernel_rfl) ?_))|(refine T_ rfl (wpList_load_mid rfl 46 (.tmp 67) rfl (w.heap.size+1) 4 rfl zQ _ HQB.out Tryz.underlying46 rfl (by kernel_rfl) ?_)))
 refine(HQ1.out w3 HW3.out).mono ?_
 rintro e w4 ⟨rfl,hw4⟩
 have HW4:=t_ HW3 hw4
 have HA4:=h_ (HA3.out.below hw4)
 have HB4:=h_ (HB3.out.below hw4)
 clear hw4 HQ1 HQA HQB la lb
 have la:=HA4.out.lt
 have lb:=HB4.out.lt
 have p38:=HA4.out.cell 38 (u:=.string ⟨tn.toArray⟩) (by rw[HCS.out];rfl)
 have q38:=HB4.out.cell 38 (u:=.string ⟨tn.toArray⟩) (by rw[HCS.out];rfl)
 have p39:=HA4.out.cell 39 (u:=.slice a L.length m) (by rw[HCS.out];rfl)
 have q39:=HB4.out.cell 39 (u:=.slice a L.length m) (by rw[HCS.out];rfl)
 have p40:=HA4.out.cell 40 (u:=.slice a2 K.length m2) (by rw[HCS.out];rfl)
 have q40:=HB4.out.cell 40 (u:=.slice a2 K.length m2) (by rw[HCS.out];rfl)
 have p41:=HA4.out.cell 41 (u:=.slice a3 Fs.length m3) (by rw[HCS.out];rfl)
 have q41:=HB4.out.cell 41 (u:=.slice a3 Fs.length m3) (by rw[HCS.out];rfl)
 have p42:=HA4.out.cell 42 (u:=.slice none 0 0) (by rw[HCS.out];rfl)
 have q42:=HB4.out.cell 42 (u:=.slice none 0 0) (by rw[HCS.out];rfl)
 go_wp2_with fail
 refine(HT1.out w4 HW4.out).mono ?_
 rintro e w5 ⟨rfl,hw5⟩
 have HW5:=t_ HW4 hw5
 have HA5:=h_ (HA4.out.below hw5)
 have HB5:=h_ (HB4.out.below hw5)
 clear hw5 p38 q38 p39 q39 p40 q40 p41 q41 p42 q42 HT1 la lb
 have la:=HA5.out.lt
 have lb:=HB5.out.lt
 have p28:=HA5.out.cell 28 (u:=.slice none 0 0) (by rw[HCS.out];rfl)
 have q28:=HB5.out.cell 28 (u:=.slice none 0 0) (by rw[HCS.out];rfl)
 go_wp2_with fail
 refine(HR1.out w5 HW5.out).mono ?_
 rintro e w6 ⟨rfl,hw6⟩
 have HW6:=t_ HW5 hw6
 have HA6:=h_ (HA5.out.below hw6)
 have HB6:=h_ (HB5.out.below hw6)
 clear hw6 p28 q28 HR1 la lb
 have la:=HA6.out.lt
 have lb:=HB6.out.lt
 have p29:=HA6.out.cell 29 (u:=.slice none 0 0) (by rw[HCS.out];rfl)
 have q29:=HB6.out.cell 29 (u:=.slice none 0 0) (by rw[HCS.out];rfl)
 go_wp2_with fail
 refine(HS1.out w6 HW6.out).mono ?_
 rintro e w7 ⟨rfl,hw7⟩
 have HW7:=t_ HW6 hw7
 have HA7:=h_ (HA6.out.below hw7)
 have HB7:=h_ (HB6.out.below hw7)
 clear hw7 p29 q29 HS1 la lb
 have la:=HA7.out.lt
 have lb:=HB7.out.lt
 have p43:=HA7.out.cell 43 (u:=.slice ax Xs.length mx) (by rw[HCS.out];rfl)
 have q43:=HB7.out.cell 43 (u:=.slice ax Xs.length mx) (by rw[HCS.out];rfl)
 go_wp2_with fail
 refine(HC1.out w7 HW7.out).mono ?_
 rintro e w8 ⟨rfl,hw8⟩
 have HW8:=t_ HW7 hw8
 have HA8:=h_ (HA7.out.below hw8)
 have HB8:=h_ (HB7.out.below hw8)
 clear hw8 p43 q43 HC1 la lb
 have la:=HA8.out.lt
 have lb:=HB8.out.lt
 go_wp2_with fail
 go_ret
 exact⟨rfl,HW8.out⟩
end Go.Proofs.YtlimlmjljjmcpaaGreatDoor.Px
namespace Go.Proofs.YtlimlmjljjmcpaaGreatDoor.Px
open Go Go.RowKit Go.Proofs.YtlimlmjljjmcpaaGreatDoor.Ps
set_option linter.unusedVariables false
set_option linter.unusedSimpArgs false
theorem b3c(L:List Col)(K:List Int)(Fs:List Fkey)(Xs:List X)(tn:S)(a a2 a3 ax:Option Addr)(m m2 m3 mx:Nat)(w:World)(ht:Ax.a0O w)(hn:tn.length<=maxLen)(h1:CL w L (.slice a L.length m))(h2:IL w K (.slice a2 K.length m2))(h3:FL w Fs (.slice a3 Fs.length m3))(h4:XL w Xs (.slice ax Xs.length mx))(cs:List Value)(hcs:cs=stC (tbC tn a L.length m a2 K.length m2 a3 Fs.length m3) (.slice ax Xs.length mx)):Calls Tryz.prog 90 #[.agg cs.toArray,.agg cs.toArray] w (Ret w (.bool true)):=by
 have HC1:=h_ fun(w':World) (hw':Below w.heap.size w w')=>(show Calls Tryz.prog 158 #[.slice ax Xs.length mx,.slice ax Xs.length mx] w' (Ret w' (.bool true)) from by
  have hx:=h4.kept hw' (Nat.le_refl _)
  refine(b9t (a1Q Xs) (a1Q Xs) ax ax Xs.length mx Xs.length mx w' hx hx).mono ?_
  rintro e w2 ⟨rfl,hb⟩
  exact⟨by rw[z_.2 rfl],hb⟩)
 have HLN:Hid (cs.length=60):=h_ (by rw[hcs];exact a1s _ _ rfl)
 have HCS:Hid (cs=stC (tbC tn a L.length m a2 K.length m2 a3 Fs.length m3) (.slice ax Xs.length mx)):=h_ hcs
 clear hcs ht hn h1 h2 h3 h4
 go_enter Tryz.func90,Tryz.ntmps90
 go_wp2_with (refine a0G rfl 63 (.tmp 0) rfl cs rfl ?_)
 intro w1 hA hw1 hz1
 go_wp2_with (refine a0G rfl 63 (.tmp 1) rfl cs rfl ?_)
 intro w2 hB hw2 hz2
 rw[<-hz1] at hw2
 have HW:=h_ (hw1.trans (hw2.mono hw1.size))
 have HA:=h_ (hA.below hw2)
 have HB:=h_ hB
 have la:=HA.out.lt
 have lb:=hB.lt
 clear hA hB hw1 hw2 hz1 hz2
 have p28:=HA.out.cell 28 (u:=.slice none 0 0) (by rw[HCS.out];rfl)
 have q28:=HB.out.cell 28 (u:=.slice none 0 0) (by rw[HCS.out];rfl)
 have p29:=HA.out.cell 29 (u:=.slice none 0 0) (by rw[HCS.out];rfl)
 have q29:=HB.out.cell 29 (u:=.slice none 0 0) (by rw[HCS.out];rfl)
 have p43:=HA.out.cell 43 (u:=.slice ax Xs.length mx) (by rw[HCS.out];rfl)
 have q43:=HB.out.cell 43 (u:=.slice ax Xs.length mx) (by rw[HCS.out];rfl)
 go_wp2_with fail
 refine(HC1.out w2 HW.out).mono ?_
 rintro e w3 ⟨rfl,hw3⟩
 have HW3:=t_ HW hw3
 have HA3:=h_ (HA.out.below hw3)
 have HB3:=h_ (HB.out.below hw3)
 clear hw3 p28 q28 p29 q29 p43 q43 HC1 la lb
 have la:=HA3.out.lt
 have lb:=HB3.out.lt
 have p28:=HA3.out.cell 28 (u:=.slice none 0 0) (by rw[HCS.out];rfl)
 have q28:=HB3.out.cell 28 (u:=.slice none 0 0) (by rw[HCS.out];rfl)
 go_upto_region 4 with(fail)
 go_loopw [5] (fun v wr=>v=.int .i64 0/\wr=w3) (fun _ _=>0)
 case atStart=>exact⟨rfl,rfl⟩
 case round=>
  obtain⟨rfl,hwr⟩:=hrel
  obtain rfl:=hwr
  go_upto_region 9 with(fail)
  clear p28 q28
  have p29:=HA3.out.cell 29 (u:=.slice none 0 0) (by rw[HCS.out];rfl)
  have q29:=HB3.out.cell 29 (u:=.slice none 0 0) (by rw[HCS.out];rfl)
  obtain⟨wz,hwz⟩:∃x,x=wr:=⟨_,rfl⟩
  subst hwz
  go_loopw [6] (fun v wr=>v=.int .i64 0/\wr=wz) (fun _ _=>0)
  case atStart=>exact⟨rfl,rfl⟩
  case round=>
   obtain⟨rfl,hwr⟩:=hrel
   obtain rfl:=hwr
   go_wp2_with fail
   go_ret
   exact⟨rfl,HW3.out⟩
theorem b2v(L:List Col)(K:List Int)(Fs:List Fkey)(Xs:List X)(tn:S)(a a2 a3 ax:Option Addr)(m m2 m3 mx:Nat)(w:World)(ht:Ax.a0O w)(hn:tn.length<=maxLen)(h1:CL w L (.slice a L.length m))(h2:IL w K (.slice a2 K.length m2))(h3:FL w Fs (.slice a3 Fs.length m3))(h4:XL w Xs (.slice ax Xs.length mx))(cs:List Value)(hcs:cs=stC (tbC tn a L.length m a2 K.length m2 a3 Fs.length m3) (.slice ax Xs.length mx)):Calls Tryz.prog 40 #[.agg cs.toArray,.agg cs.toArray] w (Ret w (.bool true)):=by
 have HE1:=h_ fun(w':World) (hw':Below w.heap.size w w')=>(show Calls Tryz.prog 17 #[.agg #[.int .i64 0,.int .i64 0,.int .i64 0,.int .i64 0,.string ⟨#[]⟩,.string ⟨#[]⟩,.slice none 0 0],.agg #[.int .i64 0,.int .i64 0,.int .i64 0,.int .i64 0,.string ⟨#[]⟩,.string ⟨#[]⟩,.slice none 0 0]] w' (Ret w' (.bool true)) from a7j (r0:=.lit (.bool true)) c2V rfl rfl b1E a3t w' (Ax.n_ ht hw'))
 have HQ1:=h_ fun(w':World) (hw':Below w.heap.size w w')=>(show Calls Tryz.prog 89 #[.agg zQ.toArray,.agg zQ.toArray] w' (Ret w' (.bool true)) from a7j (r0:=.lit (.bool true)) c2y rfl rfl b1E a3t w' (Ax.n_ ht hw'))
 have HT1:=h_ fun(w':World) (hw':Below w.heap.size w w')=>(show Calls Tryz.prog 91 #[.agg #[.string ⟨tn.toArray⟩,.slice a L.length m,.slice a2 K.length m2,.slice a3 Fs.length m3,.slice none 0 0],.agg #[.string ⟨tn.toArray⟩,.slice a L.length m,.slice a2 K.length m2,.slice a3 Fs.length m3,.slice none 0 0]] w' (Ret w' (.bool true)) from by
  obtain⟨x,hx⟩:=b6r (Xs:=Xs) (ax:=ax) (mx:=mx) hn (h1.kept hw' (Nat.le_refl _)) (h2.kept hw' (Nat.le_refl _)) (h3.kept hw' (Nat.le_refl _))
  refine(b4u _ x x _ _ w' (Nat.le_refl _) hx hx).mono ?_
  rintro e w2 ⟨rfl,hb⟩
  exact⟨by rw[z_.2 rfl],hb⟩)
 have HL1:=h_ fun(w':World) (hw':Below w.heap.size w w')=>b3c L K Fs Xs tn a a2 a3 ax m m2 m3 mx w' (Ax.n_ ht hw') hn (h1.kept hw' (Nat.le_refl _)) (h2.kept hw' (Nat.le_refl _)) (h3.kept hw' (Nat.le_refl _)) (h4.kept hw' (Nat.le_refl _)) cs hcs
 have HLN:Hid (cs.length=60):=h_ (by rw[hcs];exact a1s _ _ rfl)
 have HCS:Hid (cs=stC (tbC tn a L.length m a2 K.length m2 a3 Fs.length m3) (.slice ax Xs.length mx)):=h_ hcs
 clear hcs ht hn h1 h2 h3 h4
 go_enter Tryz.func40,Tryz.ntmps40
 go_wp2_with (refine a0G rfl 63 (.tmp 0) rfl cs rfl ?_)
 intro w1 hA hw1 hz1
 go_wp2_with (refine a0G rfl 63 (.tmp 1) rfl cs rfl ?_)
 intro w2 hB hw2 hz2
 rw[<-hz1] at hw2
 have HW:=h_ (hw1.trans (hw2.mono hw1.size))
 have HA:=h_ (hA.below hw2)
 have HB:=h_ hB
 have la:=HA.out.lt
 have lb:=hB.lt
 clear hA hB hw1 hw2 hz1 hz2
 have p0:=HA.out.cell 0 (u:=.int .i64 5) (by rw[HCS.out];rfl)
 have q0:=HB.out.cell 0 (u:=.int .i64 5) (by rw[HCS.out];rfl)
 have p1:=HA.out.cell 1 (u:=.int .i64 0) (by rw[HCS.out];rfl)
 have q1:=HB.out.cell 1 (u:=.int .i64 0) (by rw[HCS.out];rfl)
 have p2:=HA.out.cell 2 (u:=.int .i64 0) (by rw[HCS.out];rfl)
 have q2:=HB.out.cell 2 (u:=.int .i64 0) (by rw[HCS.out];rfl)
 have p3:=HA.out.cell 3 (u:=.int .i64 0) (by rw[HCS.out];rfl)
 have q3:=HB.out.cell 3 (u:=.int .i64 0) (by rw[HCS.out];rfl)
 have p27:=HA.out.cell 27 (u:=.string ⟨#[]⟩) (by rw[HCS.out];rfl)
 have q27:=HB.out.cell 27 (u:=.string ⟨#[]⟩) (by rw[HCS.out];rfl)
 have p30:=HA.out.cell 30 (u:=.bool false) (by rw[HCS.out];rfl)
 have q30:=HB.out.cell 30 (u:=.bool false) (by rw[HCS.out];rfl)
 have p44:=HA.out.cell 44 (u:=.int .i64 0) (by rw[HCS.out];rfl)
 have q44:=HB.out.cell 44 (u:=.int .i64 0) (by rw[HCS.out];rfl)
 have p45:=HA.out.cell 45 (u:=.string ⟨#[]⟩) (by rw[HCS.out];rfl)
 have q45:=HB.out.cell 45 (u:=.string ⟨#[]⟩) (by rw[HCS.out];rfl)
 have p46:=HA.out.cell 46 (u:=.string ⟨#[]⟩) (by rw[HCS.out];rfl)
 have q46:=HB.out.cell 46 (u:=.string ⟨#[]⟩) (by rw[HCS.out];rfl)
 have p47:=HA.out.cell 47 (u:=.string ⟨#[]⟩) (by rw[HCS.out];rfl)
 have q47:=HB.out.cell 47 (u:=.string ⟨#[]⟩) (by rw[HCS.out];rfl)
 have p48:=HA.out.cell 48 (u:=.int .i64 0) (by rw[HCS.out];rfl)
 have q48:=HB.out.cell 48 (u:=.int .i64 0) (by rw[HCS.out];rfl)
 have p49:=HA.out.cell 49 (u:=.bool false) (by rw[HCS.out];rfl)
 have q49:=HB.out.cell 49 (u:=.bool false) (by rw[HCS.out];rfl)
 have p50:=HA.out.cell 50 (u:=.int .i64 0) (by rw[HCS.out];rfl)
 have q50:=HB.out.cell 50 (u:=.int .i64 0) (by rw[HCS.out];rfl)
 have p51:=HA.out.cell 51 (u:=.int .i64 0) (by rw[HCS.out];rfl)
 have q51:=HB.out.cell 51 (u:=.int .i64 0) (by rw[HCS.out];rfl)
 have p52:=HA.out.cell 52 (u:=.string ⟨#[]⟩) (by rw[HCS.out];rfl)
 have q52:=HB.out.cell 52 (u:=.string ⟨#[]⟩) (by rw[HCS.out];rfl)
 have p53:=HA.out.cell 53 (u:=.string ⟨#[]⟩) (by rw[HCS.out];rfl)
 have q53:=HB.out.cell 53 (u:=.string ⟨#[]⟩) (by rw[HCS.out];rfl)
 have p54:=HA.out.cell 54 (u:=.string ⟨#[]⟩) (by rw[HCS.out];rfl)
 have q54:=HB.out.cell 54 (u:=.string ⟨#[]⟩) (by rw[HCS.out];rfl)
 have p55:=HA.out.cell 55 (u:=.int .i64 0) (by rw[HCS.out];rfl)
 have q55:=HB.out.cell 55 (u:=.int .i64 0) (by rw[HCS.out];rfl)
 have p56:=HA.out.cell 56 (u:=.int .i64 0) (by rw[HCS.out];rfl)
 have q56:=HB.out.cell 56 (u:=.int .i64 0) (by rw[HCS.out];rfl)
 have p57:=HA.out.cell 57 (u:=.int .i64 0) (by rw[HCS.out];rfl)
 have q57:=HB.out.cell 57 (u:=.int .i64 0) (by rw[HCS.out];rfl)
 have p58:=HA.out.cell 58 (u:=.int .i64 0) (by rw[HCS.out];rfl)
 have q58:=HB.out.cell 58 (u:=.int .i64 0) (by rw[HCS.out];rfl)
 have p59:=HA.out.cell 59 (u:=.int .i64 0) (by rw[HCS.out];rfl)
 have q59:=HB.out.cell 59 (u:=.int .i64 0) (by rw[HCS.out];rfl)
 go_upto_region 3 with(fail)
 clear p0 q0 p1 q1 p2 q2 p3 q3 p27 q27 p30 q30 p44 q44 p45 q45 p46 q46 p47 q47 p48 q48 p49 q49 p50 q50 p51 q51 p52 q52 p53 q53 p54 q54 p55 q55 p56 q56 p57 q57 p58 q58 p59 q59
 have HQA:Hid (w2.rangeAt w.heap.size 4 zQ):=h_ (by have h:=HA.out.part 4 23;rw[HCS.out] at h;exact h)
 have HQB:Hid (w2.rangeAt (w.heap.size+1) 4 zQ):=h_ (by have h:=HB.out.part 4 23;rw[HCS.out] at h;exact h)
 go_wp2_with (first|(refine T_ rfl (wpList_load_mid rfl 46 (.tmp 59) rfl (w.heap.size) 4 rfl zQ _ HQA.out Tryz.underlying46 rfl (by kernel_rfl) ?_))|(refine T_ rfl (wpList_load_mid rfl 46 (.tmp 61) rfl (w.heap.size+1) 4 rfl zQ _ HQB.out Tryz.underlying46 rfl (by kernel_rfl) ?_)))
 refine(HQ1.out w2 HW.out).mono ?_
 rintro e w3 ⟨rfl,hw3⟩
 have HW3:=t_ HW hw3
 have HA3:=h_ (HA.out.below hw3)
 have HB3:=h_ (HB.out.below hw3)
 clear hw3 HQ1 HQA HQB la lb
 have la:=HA3.out.lt
 have lb:=HB3.out.lt
 go_wp2_with (first|(refine T_ rfl (wpList_load_mid rfl 63 (.tmp 2) rfl (w.heap.size) 0 rfl cs _ HA3.out.all Tryz.underlying63 rfl (by rw[HLN.out];kernel_rfl) ?_))|(refine T_ rfl (wpList_load_mid rfl 63 (.tmp 3) rfl (w.heap.size+1) 0 rfl cs _ HB3.out.all Tryz.underlying63 rfl (by rw[HLN.out];kernel_rfl) ?_)))
 refine(HL1.out w3 HW3.out).mono ?_
 rintro e w4 ⟨rfl,hw4⟩
 have HW4:=t_ HW3 hw4
 have HA4:=h_ (HA3.out.below hw4)
 have HB4:=h_ (HB3.out.below hw4)
 clear hw4 HL1 la lb
 have la:=HA4.out.lt
 have lb:=HB4.out.lt
 have p31:=HA4.out.cell 31 (u:=.int .i64 0) (by rw[HCS.out];rfl)
 have q31:=HB4.out.cell 31 (u:=.int .i64 0) (by rw[HCS.out];rfl)
 have p32:=HA4.out.cell 32 (u:=.int .i64 0) (by rw[HCS.out];rfl)
 have q32:=HB4.out.cell 32 (u:=.int .i64 0) (by rw[HCS.out];rfl)
 have p33:=HA4.out.cell 33 (u:=.int .i64 0) (by rw[HCS.out];rfl)
 have q33:=HB4.out.cell 33 (u:=.int .i64 0) (by rw[HCS.out];rfl)
 have p34:=HA4.out.cell 34 (u:=.int .i64 0) (by rw[HCS.out];rfl)
 have q34:=HB4.out.cell 34 (u:=.int .i64 0) (by rw[HCS.out];rfl)
 have p35:=HA4.out.cell 35 (u:=.string ⟨#[]⟩) (by rw[HCS.out];rfl)
 have q35:=HB4.out.cell 35 (u:=.string ⟨#[]⟩) (by rw[HCS.out];rfl)
 have p36:=HA4.out.cell 36 (u:=.string ⟨#[]⟩) (by rw[HCS.out];rfl)
 have q36:=HB4.out.cell 36 (u:=.string ⟨#[]⟩) (by rw[HCS.out];rfl)
 have p37:=HA4.out.cell 37 (u:=.slice none 0 0) (by rw[HCS.out];rfl)
 have q37:=HB4.out.cell 37 (u:=.slice none 0 0) (by rw[HCS.out];rfl)
 go_wp2_with fail
 refine(HE1.out w4 HW4.out).mono ?_
 rintro e w5 ⟨rfl,hw5⟩
 have HW5:=t_ HW4 hw5
 have HA5:=h_ (HA4.out.below hw5)
 have HB5:=h_ (HB4.out.below hw5)
 clear hw5 p31 q31 p32 q32 p33 q33 p34 q34 p35 q35 p36 q36 p37 q37 HE1 la lb
 have la:=HA5.out.lt
 have lb:=HB5.out.lt
 have p38:=HA5.out.cell 38 (u:=.string ⟨tn.toArray⟩) (by rw[HCS.out];rfl)
 have q38:=HB5.out.cell 38 (u:=.string ⟨tn.toArray⟩) (by rw[HCS.out];rfl)
 have p39:=HA5.out.cell 39 (u:=.slice a L.length m) (by rw[HCS.out];rfl)
 have q39:=HB5.out.cell 39 (u:=.slice a L.length m) (by rw[HCS.out];rfl)
 have p40:=HA5.out.cell 40 (u:=.slice a2 K.length m2) (by rw[HCS.out];rfl)
 have q40:=HB5.out.cell 40 (u:=.slice a2 K.length m2) (by rw[HCS.out];rfl)
 have p41:=HA5.out.cell 41 (u:=.slice a3 Fs.length m3) (by rw[HCS.out];rfl)
 have q41:=HB5.out.cell 41 (u:=.slice a3 Fs.length m3) (by rw[HCS.out];rfl)
 have p42:=HA5.out.cell 42 (u:=.slice none 0 0) (by rw[HCS.out];rfl)
 have q42:=HB5.out.cell 42 (u:=.slice none 0 0) (by rw[HCS.out];rfl)
 go_wp2_with fail
 refine(HT1.out w5 HW5.out).mono ?_
 rintro e w6 ⟨rfl,hw6⟩
 have HW6:=t_ HW5 hw6
 have HA6:=h_ (HA5.out.below hw6)
 have HB6:=h_ (HB5.out.below hw6)
 clear hw6 p38 q38 p39 q39 p40 q40 p41 q41 p42 q42 HT1 la lb
 have la:=HA6.out.lt
 have lb:=HB6.out.lt
 go_wp2_with fail
 go_ret
 exact⟨rfl,HW6.out⟩
theorem b1C(L:List Col)(K:List Int)(Fs:List Fkey)(Xs:List X)(tn:S)(a a2 a3 ax:Option Addr)(m m2 m3 mx:Nat)(w:World)(ht:Ax.a0O w)(hn:tn.length<=maxLen)(h1:CL w L (.slice a L.length m))(h2:IL w K (.slice a2 K.length m2))(h3:FL w Fs (.slice a3 Fs.length m3))(h4:XL w Xs (.slice ax Xs.length mx))(cs:List Value)(hcs:cs=stC (tbC tn a L.length m a2 K.length m2 a3 Fs.length m3) (.slice ax Xs.length mx)):Calls Tryz.prog 13 #[.agg cs.toArray,.agg cs.toArray] w (Ret w (.bool true)):=by
 have HL1:=h_ fun(w':World) (hw':Below w.heap.size w w')=>b2v L K Fs Xs tn a a2 a3 ax m m2 m3 mx w' (Ax.n_ ht hw') hn (h1.kept hw' (Nat.le_refl _)) (h2.kept hw' (Nat.le_refl _)) (h3.kept hw' (Nat.le_refl _)) (h4.kept hw' (Nat.le_refl _)) cs hcs
 have HLN:Hid (cs.length=60):=h_ (by rw[hcs];exact a1s _ _ rfl)
 have HCS:Hid (cs=stC (tbC tn a L.length m a2 K.length m2 a3 Fs.length m3) (.slice ax Xs.length mx)):=h_ hcs
 clear hcs ht hn h1 h2 h3 h4
 go_enter Tryz.func13,Tryz.ntmps13
 go_wp2_with (refine a0G rfl 63 (.tmp 0) rfl cs rfl ?_)
 intro w1 hA hw1 hz1
 go_wp2_with (refine a0G rfl 63 (.tmp 1) rfl cs rfl ?_)
 intro w2 hB hw2 hz2
 rw[<-hz1] at hw2
 have HW:=h_ (hw1.trans (hw2.mono hw1.size))
 have HA:=h_ (hA.below hw2)
 have HB:=h_ hB
 have la:=HA.out.lt
 have lb:=hB.lt
 clear hA hB hw1 hw2 hz1 hz2
 go_wp2_with (first|(refine T_ rfl (wpList_load_mid rfl 63 (.tmp 2) rfl (w.heap.size) 0 rfl cs _ HA.out.all Tryz.underlying63 rfl (by rw[HLN.out];kernel_rfl) ?_))|(refine T_ rfl (wpList_load_mid rfl 63 (.tmp 3) rfl (w.heap.size+1) 0 rfl cs _ HB.out.all Tryz.underlying63 rfl (by rw[HLN.out];kernel_rfl) ?_)))
 refine(HL1.out w2 HW.out).mono ?_
 rintro e w3 ⟨rfl,hw3⟩
 have HW3:=t_ HW hw3
 have HA3:=h_ (HA.out.below hw3)
 have HB3:=h_ (HB.out.below hw3)
 clear hw3 HL1 la lb
 have la:=HA3.out.lt
 have lb:=HB3.out.lt
 go_wp2_with fail
 go_ret
 exact⟨rfl,HW3.out⟩
theorem b1K(L:List Col)(K:List Int)(Fs:List Fkey)(Xs:List X)(tn:S)(a a2 a3 ax:Option Addr)(m m2 m3 mx:Nat)(w:World)(ht:Ax.a0O w)(hn:tn.length<=maxLen)(h1:CL w L (.slice a L.length m))(h2:IL w K (.slice a2 K.length m2))(h3:FL w Fs (.slice a3 Fs.length m3))(h4:XL w Xs (.slice ax Xs.length mx))(cs:List Value)(hcs:cs=stC (tbC tn a L.length m a2 K.length m2 a3 Fs.length m3) (.slice ax Xs.length mx))(b:Bool)(hc:∀w':World,Below w.heap.size w w'->Calls Tryz.prog 224 #[.agg #[.string ⟨tn.toArray⟩,.slice a L.length m,.slice a2 K.length m2,.slice a3 Fs.length m3,.slice none 0 0],.slice ax Xs.length mx] w' (Ret w' (.bool b))):Calls Tryz.prog 135 #[.agg cs.toArray] w (Ret w (.bool b)):=by
 have HLN:Hid (cs.length=60):=h_ (by rw[hcs];exact a1s _ _ rfl)
 have HC:=h_ hc
 have HUS:=h_ fun(w':World) (hw':Below w.heap.size w w')=>(show Calls Tryz.prog 218 #[.agg cs.toArray] w' (Ret w' (.agg cs.toArray)) from hcs ▸ (c0c b8r rfl rfl (a8b tn (a,L.length,m) (a2,K.length,m2) (a3,Fs.length,m3) (ax,Xs.length,mx)) (a2j _ _ _ _ _) w' (Ax.n_ ht hw')))
 have HMD:=h_ fun(w':World) (hw':Below w.heap.size w w')=>(show Calls Tryz.prog 219 #[.agg cs.toArray] w' (Ret w' (.bool true)) from hcs ▸ (a7q (r0:=.lit (.bool true)) c0E rfl rfl (a8b tn (a,L.length,m) (a2,K.length,m2) (a3,Fs.length,m3) (ax,Xs.length,mx)) (a2j _ _ _ _ _) w' (Ax.n_ ht hw')))
 have HSM:=h_ fun(w':World) (hw':Below w.heap.size w w')=>b1C L K Fs Xs tn a a2 a3 ax m m2 m3 mx w' (Ax.n_ ht hw') hn (h1.kept hw' (Nat.le_refl _)) (h2.kept hw' (Nat.le_refl _)) (h3.kept hw' (Nat.le_refl _)) (h4.kept hw' (Nat.le_refl _)) cs hcs
 have HWI:Hid (∀w':World,Calls Tryz.prog 217 #[.int .i64 5,.int .i64 1,.int .i64 14] w' (Ret w' (.bool true))):=h_ fun w'=>a4x 5 1 14 w'
 clear hc ht hn h1 h2 h3 h4
 have HCS:Hid (cs=stC (tbC tn a L.length m a2 K.length m2 a3 Fs.length m3) (.slice ax Xs.length mx)):=h_ hcs
 clear hcs
 go_enter Tryz.func135,Tryz.ntmps135
 go_wp2_with (refine a0G rfl 63 (.tmp 0) rfl cs rfl ?_)
 intro w1 hB hw1 hz1
 have HB:=h_ hB
 have HW:=h_ hw1
 clear hB hw1 hz1
 go_upto_region 1 with(fail)
 refine Gr.f_ 15 (by kernel_rfl) (by kernel_rfl) (fun w'=>Below w1.heap.size w1 w') ⟨rfl,rfl,rfl,Nat.le_refl _,fun _ _=>rfl⟩ ?_
 simp only[List.take_succ_cons,List.take_zero,List.drop_succ_cons,List.drop_zero]
 refine Gr.sn _ (by go_simp;intro w' hw';go_simp;rw[Gr.a_]) fun K hK=>?_;go_simp;refine hK _ ?_;clear hK K
 refine Gr.sn _ (by go_simp;intro w' hw';have p0:=(HB.out.below hw').cell 0 (u:=.int .i64 5) (by rw[HCS.out];rfl);go_simp;rw[Gr.a_]) fun K hK=>?_;go_simp;refine hK _ ?_;clear hK K
 refine Gr.sn (.bool true) (by go_simp;intro w' hw';go_simp;rw[Gr.b_];exact Ret.fam (HWI.out w') hw') fun K hK=>?_;go_simp;refine hK _ ?_;clear hK K
 iterate 2
  refine Gr.sn _ (by go_simp;intro w' hw';go_simp;rw[Gr.a_]) fun K hK=>?_;go_simp;refine hK _ ?_;clear hK K
 refine Gr.a7p rfl 63 (.tmp 1) rfl w.heap.size 0 rfl cs _ (fun w' hw'=>(HB.out.below hw').all) Tryz.underlying63 rfl (by rw[HLN.out];kernel_rfl) ?_
 refine Gr.a1f fun K hK=>?_;go_simp;refine hK _ ?_;clear hK K
 refine Gr.a7p rfl 63 (.tmp 1) rfl w.heap.size 0 rfl cs _ (fun w' hw'=>(HB.out.below hw').all) Tryz.underlying63 rfl (by rw[HLN.out];kernel_rfl) ?_
 refine Gr.a1f fun K hK=>?_;go_simp;refine hK _ ?_;clear hK K
 refine Gr.sn (.agg cs.toArray) (by go_simp;intro w' hw';go_simp;rw[Gr.b_];exact Ret.fam (HUS.out w' (HW.out.trans (hw'.mono HW.out.size))) hw') fun K hK=>?_;go_simp;refine hK _ ?_;clear hK K
 refine Gr.sn (.bool true) (by go_simp;intro w' hw';go_simp;rw[Gr.b_];exact Ret.fam (HSM.out w' (HW.out.trans (hw'.mono HW.out.size))) hw') fun K hK=>?_;go_simp;refine hK _ ?_;clear hK K
 iterate 3
  refine Gr.sn _ (by go_simp;intro w' hw';go_simp;rw[Gr.a_]) fun K hK=>?_;go_simp;refine hK _ ?_;clear hK K
 refine Gr.a7p rfl 63 (.tmp 1) rfl w.heap.size 0 rfl cs _ (fun w' hw'=>(HB.out.below hw').all) Tryz.underlying63 rfl (by rw[HLN.out];kernel_rfl) ?_
 refine Gr.a1f fun K hK=>?_;go_simp;refine hK _ ?_;clear hK K
 iterate 2
  first
  |apply Gr.sn (.bool true);focus(go_simp;intro w' hw';go_simp;rw[Gr.b_];exact Ret.fam (HMD.out w' (HW.out.trans (hw'.mono HW.out.size))) hw';done)
  |apply Gr.sn;focus(go_simp;intro w' hw';go_simp;rw[Gr.a_];done)
  intro K hK;go_simp;refine hK _ ?_;clear hK K
 refine Gr.o_ fun w2 hw2=>?_
 have HB2:=h_ (HB.out.below hw2)
 have HW2:=t_ HW hw2
 clear hw2 HUS HMD HSM HWI
 have p0:=HB2.out.cell 0 (u:=.int .i64 5) (by rw[HCS.out];rfl)
 have p38:=HB2.out.cell 38 (u:=.string ⟨tn.toArray⟩) (by rw[HCS.out];rfl)
 have p39:=HB2.out.cell 39 (u:=.slice a L.length m) (by rw[HCS.out];rfl)
 have p40:=HB2.out.cell 40 (u:=.slice a2 K.length m2) (by rw[HCS.out];rfl)
 have p41:=HB2.out.cell 41 (u:=.slice a3 Fs.length m3) (by rw[HCS.out];rfl)
 have p42:=HB2.out.cell 42 (u:=.slice none 0 0) (by rw[HCS.out];rfl)
 have p43:=HB2.out.cell 43 (u:=.slice ax Xs.length mx) (by rw[HCS.out];rfl)
 go_wp2_with fail
 refine(HC.out w2 HW2.out).mono ?_
 rintro e w3 ⟨rfl,hw3⟩
 have HW3:=t_ HW2 hw3
 clear hw3
 go_wp2_with fail
 go_ret
 exact⟨rfl,HW3.out⟩
theorem b4P(t:S)(w:World)(ht:t ≠ [])(hl:t.length<=1000000000):Calls Tryz.prog 48 #[.slice (some ⟨w.heap.size,0,none⟩) 2 2] (w.alloc (.cells #[.string ⟨#[]⟩,.string ⟨t.toArray⟩] 9)) (Ret (w.alloc (.cells #[.string ⟨#[]⟩,.string ⟨t.toArray⟩] 9)) (.string ⟨t.toArray⟩)):=by
 have hj:Lib.join (jl [[],t]) [32]=t:=by
  have e:jl [[],t]=[t]:=by
   unfold jl
   cases t with
   |nil=>exact absurd rfl ht
   |cons c t=>rfl
  rw[e,Lib.join_one]
 have:=a3B [[],t] (some ⟨w.heap.size,0,none⟩) 2 (w.alloc (.cells #[.string ⟨#[]⟩,.string ⟨t.toArray⟩] 9)) (by simp) (fun j s hs=>?_) (by rw[hj];omega)
 ·rw[hj] at this
  exact this
 ·refine⟨_,_,rfl,by simp,?_⟩
  rcases j with _|_|j
  ·injection hs with hs;subst hs;exact(Blk.new w [S_ [],S_ t] 9).cell 0 rfl
  ·injection hs with hs;subst hs;exact(Blk.new w [S_ [],S_ t] 9).cell 1 rfl
  ·cases hs
def a6Q(Xs:List X)(b:Bool)(t:S):S × Int:=if dps Xs then([],26) else if b then fin t else([],8)
theorem a8k(tb:List Value)(ck:Value)(h1:∀u∈tb,u.oneCell'=true)(h2:ck.oneCell'=true):∀u∈stC tb ck,u.oneCell'=true:=by
 intro u hu
 unfold stC at hu
 rcases List.mem_append.1 hu with hu|hu
 ·exact List.all_eq_true.1 (show(List.all _ fun u=>u.oneCell')=true from rfl) u hu
 ·rcases List.mem_append.1 hu with hu|hu
  ·exact h1 u hu
  ·rcases List.mem_cons.1 hu with rfl|hu
   ·exact h2
   ·exact List.all_eq_true.1 (show(List.all _ fun u=>u.oneCell')=true from rfl) u hu
theorem a1p{ops:Array Oper}{o:Oper}{a:Act}{w:World}{K:Act->World->Prop}{Q:Exit->Act->World->Prop}{E:Prop}(hgd:o.guard=none)(ty:TypeId)(x:Operand)(ho:o.op=.load ty x)(b k:Nat)(hx:a.eval x=.pointer (some ⟨b,k,none⟩))(cs:List Value)(d:TypeDesc)(hc:w.rangeAt b k cs)(hu:Tryz.prog.underlying ty=some d)(hd:d.isRow=true)(hi:(Tryz.prog.info? ty).map (·.size)=some cs.length)(h:K (a.put o.dst (.agg cs.toArray)) w):if Region.wanted o (yielded ops a.tmps)=true then Oper.wp Tryz.prog o a w K Q else E:=by
 have hw:Region.wanted o (yielded ops a.tmps)=true:=by simp[Region.wanted,hgd]
 rw[if_pos hw]
 exact wp_load_mid ty x ho b k hx cs d hc hu hd hi h
theorem b7F(tn:S)(a:Option Addr)(n m:Nat)(a2:Option Addr)(n2 m2:Nat)(a3:Option Addr)(n3 m3:Nat)(ax:Option Addr)(nx mx:Nat)(w:World)(cs:List Value)(hcs:cs=(stC (tbC tn a n m a2 n2 m2 a3 n3 m3) (.slice ax nx mx)))(Xs:List X)(hnx:nx=Xs.length)(hxl:Xs.length<=1000000)(hxn:∀x∈Xs,nodes x<=1152921504606846976)(ht:Ax.a0O w)(hv:XL w Xs (.slice ax nx mx)):Calls Tryz.prog 44 #[.agg cs.toArray] w (Ret w (.bool (dps Xs))):=by
 have HDQ:=h_ fun(w':World) (hw':Below w.heap.size w w')=>(show Calls Tryz.prog 100 #[.agg zQ.toArray] w' (Ret w' (.bool false)) from a7q (r0:=.lit (.bool false)) b9M rfl rfl (a8b [] (none,0,0) (none,0,0) (none,0,0) (none,0,0)) (a2j _ _ _ _ _) w' (Ax.n_ ht hw'))
 have HV:=h_ hv
 have HXN:=h_ hxn
 subst hnx
 clear hv hxn ht
 have HCS:Hid (cs=(stC (tbC tn a n m a2 n2 m2 a3 n3 m3) (.slice ax Xs.length mx))):=h_ hcs
 clear hcs
 go_enter Tryz.func44,Tryz.ntmps44
 go_wp2_with (refine a0G rfl 63 (.tmp 0) rfl cs rfl ?_)
 intro w1 hB hw1 hz1
 have HB:=h_ hB
 have HW:=h_ hw1
 clear hB hw1 hz1
 have HQR:Hid (w1.rangeAt w.heap.size 4 zQ):=h_ (by have h:=HB.out.part 4 23;rw[HCS.out] at h;exact h)
 go_wp2_with (refine T_ rfl (wpList_load_mid rfl 46 (.tmp 15) rfl w.heap.size 4 rfl zQ _ HQR.out Tryz.underlying46 rfl (by kernel_rfl) ?_))
 refine(HDQ.out w1 HW.out).mono ?_
 rintro e w2 ⟨rfl,hw2⟩
 have HW2:=t_ HW hw2
 have HB2:=h_ (HB.out.below hw2)
 clear hw2 HDQ HQR
 go_upto_region 2 with(fail)
 refine nA fun w3 hV hw3 hz3=>?_
 have HV3:=h_ hV
 have HB3:=h_ (HB2.out.below hw3)
 have HW3:=t_ HW2 hw3
 have HZ3:Hid (w.heap.size<w2.heap.size):=h_ HB2.out.lt
 have HZ4:Hid (w3.heap.size=w2.heap.size+1):=h_ hz3
 clear hV hw3 hz3
 have p28:=HB3.out.cell 28 (u:=.slice none 0 0) (by rw[HCS.out];rfl)
 have lp3:w.heap.size<w3.heap.size:=HB3.out.lt
 go_upto_region 4 with(fail)
 go_loopw [22] (fun v wr=>v=.int .i64 0/\wr=w3) (fun _ _=>0)
 case atStart=>exact⟨rfl,rfl⟩
 case round=>
  obtain⟨rfl,hwr⟩:=hrel
  obtain rfl:=hwr
  clear p28
  have p29:=HB3.out.cell 29 (u:=.slice none 0 0) (by rw[HCS.out];rfl)
  go_upto_region 13 with(fail)
  obtain⟨wq,hwq⟩:∃x,x=wr:=⟨_,rfl⟩
  subst hwq
  go_loopw [40] (fun v wr=>v=.int .i64 0/\wr=wq) (fun _ _=>0)
  case atStart=>exact⟨rfl,rfl⟩
  case round=>
   obtain⟨rfl,hwr⟩:=hrel
   obtain rfl:=hwr
   clear p29
   have z0:=HB3.out.cell 31 (u:=.int .i64 0) (by rw[HCS.out];rfl)
   have z1:=HB3.out.cell 32 (u:=.int .i64 0) (by rw[HCS.out];rfl)
   have z2:=HB3.out.cell 33 (u:=.int .i64 0) (by rw[HCS.out];rfl)
   have z3:=HB3.out.cell 34 (u:=.int .i64 0) (by rw[HCS.out];rfl)
   have z4:=HB3.out.cell 35 (u:=.string ⟨#[]⟩) (by rw[HCS.out];rfl)
   have z5:=HB3.out.cell 36 (u:=.string ⟨#[]⟩) (by rw[HCS.out];rfl)
   have z6:=HB3.out.cell 37 (u:=.slice none 0 0) (by rw[HCS.out];rfl)
   go_wp2_with fail
   refine(a8F X0 _ w2.heap.size false wr (by decide) (b6q wr) HV3.out).mono ?_
   rintro e w5 ⟨rfl,hv5,hw5⟩
   have HV5:Hid (Blk w5 w2.heap.size [.bool (dps (Xs.take 0))] 4):=h_ hv5
   have HB5:=h_ (Blk.low HB3.out hw5 HZ3.out)
   have HW5:=h_ (HW3.out.trans (hw5.mono (by have:=HZ3.out;omega)))
   have HS5:Hid (w2.heap.size<w5.heap.size):=h_ hv5.lt
   clear hv5 hw5 z0 z1 z2 z3 z4 z5 z6
   have p43:=HB5.out.cell 43 (u:=.slice ax Xs.length mx) (by rw[HCS.out];rfl)
   have lp5:w.heap.size<w5.heap.size:=HB5.out.lt
   go_upto_region 19 with(fail)
   clear p43
   go_loopw [56] (fun i wl=>∃k:Nat,k<=Xs.length/\i=.int .i64 (k:Int)/\Blk wl w2.heap.size [.bool (dps (Xs.take k))] 4/\Below w2.heap.size w5 wl) (fun i _=>Xs.length - (intOf i).toNat)
   case atStart=>exact⟨0,Nat.zero_le _,rfl,HV5.out,Below.refl _ _⟩
   case round=>
    obtain⟨k,hk,rfl,hvb,hb⟩:=hrel
    have HVB:=h_ hvb
    have HBB:=h_ hb
    have HWr:=h_ (HW5.out.trans (hb.mono (by have:=HZ3.out;omega)))
    have HSr:Hid (w2.heap.size<wr.heap.size):=h_ hvb.lt
    have HBr:=h_ (Blk.low HB5.out hb HZ3.out)
    clear hvb hb
    by_cases hlt:k<Xs.length
    ·have k1:(k:Int)<(Xs.length:Int):=by omega
     have k0:(0:Int)<=(k:Int):=by omega
     obtain⟨g,o,us,eq,hec,hkx,hrx⟩:=HV.out.ec hlt
     subst eq
     have HT:=h_ (b2F hkx)
     have HD:=h_ fun(w':World) (q:Bool) (hw':Below wr.heap.size wr w') (hb:Blk w' w2.heap.size [.bool q] 4)=>a8F Xs[k] us w2.heap.size q w' (HXN.out _ (List.getElem_mem hkx)) (hrx.kept (HWr.out.trans (hw'.mono HWr.out.size)) (Nat.le_refl _)) hb
     generalize hM1:dps (Xs.take (k+1))=M1 at HT
     have HM1:=h_ hM1
     clear hM1
     generalize dps (Xs.take k)=M at HT HVB
     generalize dpB Xs[k]=r at HT HD
     generalize Xs[k]=xk at hrx
     obtain⟨eop,eint,evk,evi,evs,enm,el⟩:=xk
     obtain⟨ea,em,rfl,_⟩:=hrx.lits
     obtain⟨c0,c1,c2,c3,c4,c5,c6⟩:=hec.c7 HWr.out
     have lg:g<wr.heap.size:=Nat.lt_of_lt_of_le hec.1 HWr.out.size
     clear hec hrx
     go_wp2_with fail
     refine(HD.out _ M (d_ wr _) (HVB.out.below (d_ wr _))).mono ?_
     rintro e w8 ⟨rfl,hv8,hw8⟩
     have HV8:Hid (Blk w8 w2.heap.size [.bool M1] 4):=h_ (by rw[HT.out];exact hv8)
     have HB8:=h_ (HBB.out.trans (((d_ wr _).mono (Nat.le_of_lt HSr.out)).trans hw8))
     clear hv8 hw8 c0 c1 c2 c3 c4 c5 c6 HD
     go_wp2_with fail
     go_roundw
     case rel=>exact⟨k+1,by omega,by go_num,by rw[HM1.out];exact HV8.out,HB8.out⟩
     case measure=>simp[intOf];omega
    ·obtain rfl:k=Xs.length:=by omega
     have d1:decide ((Xs.length:Int)<(Xs.length:Int))=false:=decide_eq_false (by omega)
     rw[List.take_length] at HVB
     have p42:=HBr.out.cell 42 (u:=.slice none 0 0) (by rw[HCS.out];rfl)
     have lp:w.heap.size<wr.heap.size:=HBr.out.lt
     go_upto_region 24 with(fail)
     obtain⟨wz,hwz⟩:∃x,x=wr:=⟨_,rfl⟩
     subst hwz
     clear p42
     go_loopw [68] (fun v wr=>v=.int .i64 0/\wr=wz) (fun _ _=>0)
     case atStart=>exact⟨rfl,rfl⟩
     case round=>
      obtain⟨rfl,hwr⟩:=hrel
      obtain rfl:=hwr
      have b0:=HVB.out.cell 0 rfl
      go_wp2_with fail
      go_ret
      exact⟨rfl,HWr.out⟩
theorem a6V(tn:S)(a:Option Addr)(n m:Nat)(a2:Option Addr)(n2 m2:Nat)(a3:Option Addr)(n3 m3:Nat)(ax:Option Addr)(nx mx:Nat)(w:World)(cs:List Value)(hcs:cs=(stC (tbC tn a n m a2 n2 m2 a3 n3 m3) (.slice ax nx mx)))(b:Bool)(hc:∀w':World,Below w.heap.size w w'->Calls Tryz.prog 106 #[.agg #[.string ⟨tn.toArray⟩,.slice a n m,.slice a2 n2 m2,.slice a3 n3 m3,.slice none 0 0],.slice ax nx mx] w' (Ret w' (.bool b))):Calls Tryz.prog 47 #[.agg cs.toArray] w (Ret w (.bool b)):=by
 have HC:=h_ hc
 clear hc
 have HCS:Hid (cs=(stC (tbC tn a n m a2 n2 m2 a3 n3 m3) (.slice ax nx mx))):=h_ hcs
 clear hcs
 go_enter Tryz.func47,Tryz.ntmps47
 go_wp2_with (refine a0G rfl 63 (.tmp 0) rfl cs rfl ?_)
 intro w1 hB hw1 hz1
 have HB:=h_ hB
 have HW:=h_ hw1
 clear hB hw1 hz1
 have p0:=HB.out.cell 0 (u:=.int .i64 5) (by rw[HCS.out];rfl)
 have p38:=HB.out.cell 38 (u:=.string ⟨tn.toArray⟩) (by rw[HCS.out];rfl)
 have p39:=HB.out.cell 39 (u:=.slice a n m) (by rw[HCS.out];rfl)
 have p40:=HB.out.cell 40 (u:=.slice a2 n2 m2) (by rw[HCS.out];rfl)
 have p41:=HB.out.cell 41 (u:=.slice a3 n3 m3) (by rw[HCS.out];rfl)
 have p42:=HB.out.cell 42 (u:=.slice none 0 0) (by rw[HCS.out];rfl)
 have p43:=HB.out.cell 43 (u:=.slice ax nx mx) (by rw[HCS.out];rfl)
 go_wp2_with fail
 refine(HC.out w1 HW.out).mono ?_
 rintro e w2 ⟨rfl,hw2⟩
 have HW2:=t_ HW hw2
 clear hw2
 go_wp2_with fail
 go_ret
 exact⟨rfl,HW2.out⟩
theorem a8d(tn:S)(a:Option Addr)(n m:Nat)(a2:Option Addr)(n2 m2:Nat)(a3:Option Addr)(n3 m3:Nat)(ax:Option Addr)(nx mx:Nat)(w:World)(cs:List Value)(hcs:cs=(stC (tbC tn a n m a2 n2 m2 a3 n3 m3) (.slice ax nx mx)))(t:S)(hc:∀w':World,Below w.heap.size w w'->Calls Tryz.prog 117 #[.agg #[.string ⟨tn.toArray⟩,.slice a n m,.slice a2 n2 m2,.slice a3 n3 m3,.slice none 0 0],.slice ax nx mx] w' (Ret w' (.string ⟨t.toArray⟩))):Calls Tryz.prog 50 #[.agg cs.toArray] w (Ret w (.string ⟨t.toArray⟩)):=by
 have HC:=h_ hc
 clear hc
 have HCS:Hid (cs=(stC (tbC tn a n m a2 n2 m2 a3 n3 m3) (.slice ax nx mx))):=h_ hcs
 clear hcs
 go_enter Tryz.func50,Tryz.ntmps50
 go_wp2_with (refine a0G rfl 63 (.tmp 0) rfl cs rfl ?_)
 intro w1 hB hw1 hz1
 have HB:=h_ hB
 have HW:=h_ hw1
 clear hB hw1 hz1
 have p0:=HB.out.cell 0 (u:=.int .i64 5) (by rw[HCS.out];rfl)
 have p38:=HB.out.cell 38 (u:=.string ⟨tn.toArray⟩) (by rw[HCS.out];rfl)
 have p39:=HB.out.cell 39 (u:=.slice a n m) (by rw[HCS.out];rfl)
 have p40:=HB.out.cell 40 (u:=.slice a2 n2 m2) (by rw[HCS.out];rfl)
 have p41:=HB.out.cell 41 (u:=.slice a3 n3 m3) (by rw[HCS.out];rfl)
 have p42:=HB.out.cell 42 (u:=.slice none 0 0) (by rw[HCS.out];rfl)
 have p43:=HB.out.cell 43 (u:=.slice ax nx mx) (by rw[HCS.out];rfl)
 go_wp2_with fail
 refine(HC.out w1 HW.out).mono ?_
 rintro e w2 ⟨rfl,hw2⟩
 have HW2:=t_ HW hw2
 clear hw2
 go_wp2_with fail
 go_ret
 exact⟨rfl,HW2.out⟩
theorem a7X(tn:S)(a:Option Addr)(n m:Nat)(a2:Option Addr)(n2 m2:Nat)(a3:Option Addr)(n3 m3:Nat)(ax:Option Addr)(nx mx:Nat)(w:World)(cs:List Value)(hcs:cs=(stC (tbC tn a n m a2 n2 m2 a3 n3 m3) (.slice ax nx mx)))(t:S)(hc:∀w':World,Below w.heap.size w w'->Calls Tryz.prog 230 #[.agg #[.string ⟨tn.toArray⟩,.slice a n m,.slice a2 n2 m2,.slice a3 n3 m3,.slice none 0 0],.slice ax nx mx] w' (Ret w' (.string ⟨t.toArray⟩))):Calls Tryz.prog 136 #[.agg cs.toArray] w (Ret w (.string ⟨t.toArray⟩)):=by
 have HC:=h_ hc
 clear hc
 have HCS:Hid (cs=(stC (tbC tn a n m a2 n2 m2 a3 n3 m3) (.slice ax nx mx))):=h_ hcs
 clear hcs
 go_enter Tryz.func136,Tryz.ntmps136
 go_wp2_with (refine a0G rfl 63 (.tmp 0) rfl cs rfl ?_)
 intro w1 hB hw1 hz1
 have HB:=h_ hB
 have HW:=h_ hw1
 clear hB hw1 hz1
 have p0:=HB.out.cell 0 (u:=.int .i64 5) (by rw[HCS.out];rfl)
 have p38:=HB.out.cell 38 (u:=.string ⟨tn.toArray⟩) (by rw[HCS.out];rfl)
 have p39:=HB.out.cell 39 (u:=.slice a n m) (by rw[HCS.out];rfl)
 have p40:=HB.out.cell 40 (u:=.slice a2 n2 m2) (by rw[HCS.out];rfl)
 have p41:=HB.out.cell 41 (u:=.slice a3 n3 m3) (by rw[HCS.out];rfl)
 have p42:=HB.out.cell 42 (u:=.slice none 0 0) (by rw[HCS.out];rfl)
 have p43:=HB.out.cell 43 (u:=.slice ax nx mx) (by rw[HCS.out];rfl)
 go_wp2_with fail
 refine(HC.out w1 HW.out).mono ?_
 rintro e w2 ⟨rfl,hw2⟩
 have HW2:=t_ HW hw2
 clear hw2
 go_wp2_with fail
 go_ret
 exact⟨rfl,HW2.out⟩
end Go.Proofs.YtlimlmjljjmcpaaGreatDoor.Px
