import Derived.Test.YtlimlmjljjmcpaaGreatDoorTsTb
import Derived.Test.YtlimlmjljjmcpaaGreatDoorTsRt
import Derived.Test.YtlimlmjljjmcpaaGreatDoorPxLaw
set_option maxHeartbeats 16000000
set_option maxRecDepth 100000
namespace Go.Proofs.YtlimlmjljjmcpaaGreatDoor.Px
open Go Go.RowKit Go.Proofs.YtlimlmjljjmcpaaGreatDoor.Ps
set_option linter.unusedVariables false
set_option linter.unusedSimpArgs false
theorem b7B{l:List X}{k:Nat}(h:k<l.length):j_ (l.take (k+1))=j_ (l.take k)+nodes l[k]:=by
 have app:∀a b:List X,j_ (a++b)=j_ a+j_ b:=fun a b=>by
  induction a with
  |nil=>simp[j_]
  |cons x a ih=>rw[List.cons_append,j_,j_,ih];omega
 rw[List.take_succ_eq_append_getElem h,app,j_,j_]
 omega
theorem a9H:∀(l:List X) (k:Nat),j_ (l.take k)<=j_ l
 |[],k=>by simp
 |x::l,0=>by simp[j_]
 |x::l,k+1=>by rw[List.take_succ_cons,j_,j_];have:=a9H l k;omega
theorem b4a(l:List X)(a:Option Addr)(c:Nat)(w:World)(hl:l.length<=1000000)(hn:j_ l<=1048576)(hv:XL w l (.slice a l.length c)):Calls Tryz.prog 18 #[.slice a l.length c] w (Ret w (.int .i64 (j_ l:Int))):=by
 have HL:=h_ hv
 have HNL:=h_ hn
 clear hv hn
 go_enter Tryz.func18,Tryz.ntmps18
 go_wp2_with fail
 go_loopw [3,7] (fun s i wr=>∃k:Nat,k<=l.length/\s=.int .i64 (j_ (l.take k):Int)/\i=.int .i64 (k:Int)/\Below w.heap.size w wr) (fun _ i _=>l.length - (intOf i).toNat)
 case atStart=>exact⟨0,Nat.zero_le _,by simp[j_],rfl,Below.refl _ _⟩
 case round=>
  obtain⟨k,hk,rfl,rfl,hb⟩:=hrel
  have HB:=h_ hb
  clear hb
  by_cases hlt:k<l.length
  ·have k1:(k:Int)<(l.length:Int):=by omega
   have k0:(0:Int)<=(k:Int):=by omega
   obtain⟨g,o,us,eq,hec,hkx,hrx⟩:=HL.out.ec hlt
   subst eq
   have HT:=h_ (b7B hkx)
   have hmx:=a9H l (k+1)
   have hn2:=HNL.out
   have hns:nodes l[k]<=1048576:=by have:=HT.out;omega
   have HD:=h_ fun(w':World) (hw':Below wr.heap.size wr w')=>a9P (nodes l[k]) l[k] us w' (Nat.le_refl _) (by omega) (hrx.kept (HB.out.trans (hw'.mono HB.out.size)) (Nat.le_refl _))
   have hsm:j_ (l.take k)+nodes l[k]<=1048576:=by have:=HT.out;omega
   generalize hM1:j_ (l.take (k+1))=M1 at HT
   have HM1:=h_ hM1
   clear hM1 hmx hn2 hns
   generalize j_ (l.take k)=M at HT hsm
   generalize nodes l[k]=d at HD HT hsm
   generalize l[k]=xk at hrx HD
   obtain⟨eop,eint,evk,evi,evs,enm,el⟩:=xk
   obtain⟨ea,em,rfl,_⟩:=hrx.lits
   obtain⟨c0,c1,c2,c3,c4,c5,c6⟩:=hec.c7 HB.out
   have lg:g<wr.heap.size:=Nat.lt_of_lt_of_le hec.1 HB.out.size
   clear hec hrx
   go_wp2_with fail
   refine(HD.out wr (Below.refl _ _)).mono ?_
   rintro e w4 ⟨rfl,hw4⟩
   have HB4:=t_ HB hw4
   clear hw4 c0 c1 c2 c3 c4 c5 c6 HD
   go_wp2_with fail
   go_roundw
   case rel=>exact⟨k+1,by omega,by rw[HM1.out,HT.out,Int.natCast_add],by go_num,HB4.out⟩
   case measure=>simp[intOf];omega
  ·obtain rfl:k=l.length:=by omega
   have d1:decide ((l.length:Int)<(l.length:Int))=false:=decide_eq_false (by omega)
   have HTL:Hid (j_ (l.take l.length)=j_ l):=h_ (by rw[List.take_length])
   generalize j_ (l.take l.length)=M at HTL |-
   go_wp2_with fail
   go_ret
   exact⟨by rw[<-HTL.out];rfl,HB.out⟩
theorem b3K(L:List Col)(K:List Int)(Fs:List Fkey)(Cs:List X)(tn:S)(a a2 a3 a4:Option Addr)(m m2 m3 m4:Nat)(w:World)(hE:Env w)(ht:Ax.a0O w)(hL:L.length<=1000000)(hK:K.length<=1099511627776)(hfl:∀f∈Fs,f.cols.length<=1099511627776 /\ ∀c∈f.cols,-9223372036854775808<=c/\c<=9223372036854775807)(hcl:Cs.length<=1000000)(hcn:j_ Cs<=1048576)(hcs:∀x∈Cs,D_ x)(h1:CL w L (.slice a L.length m))(h2:IL w K (.slice a2 K.length m2))(h3:FL w Fs (.slice a3 Fs.length m3))(h4:XL w Cs (.slice a4 Cs.length m4)):Calls Tryz.prog 7 #[.agg #[.string ⟨tn.toArray⟩,.slice a L.length m,.slice a2 K.length m2,.slice a3 Fs.length m3,.slice a4 Cs.length m4]] w fun e w'=>e=.returned (.bool true)/\Below w.heap.size w w':=by
 have HT:=h_ fun(w':World) (hw':Below w.heap.size w w')=>Ax.b4E w' (Ax.n_ ht hw')
 have HN:=h_ fun(w':World) (hw':Below w.heap.size w w')=>b4a Cs a4 m4 w' hcl hcn (h4.kept hw' (Nat.le_refl _))
 obtain⟨R,hy,hno⟩:∃R:S × Int,(a1D ⟨tn,L,K,Fs,Cs⟩->R=c1H tn L K Fs Cs)/\(¬a1D ⟨tn,L,K,Fs,Cs⟩->R=([],8)):=by
  by_cases h:a1D ⟨tn,L,K,Fs,Cs⟩
  ·exact⟨_,fun _=>rfl,fun h2=>absurd h h2⟩
  ·exact⟨_,fun h2=>absurd h2 h,fun _=>rfl⟩
 have HA:=h_ fun(h5:j_ Cs<=2000) (w':World) (hw':Below w.heap.size w w')=>b3P L K Fs Cs tn a a2 a3 a4 m m2 m3 m4 w' (hE.below hw') (Ax.n_ ht hw') hL hK hfl (fun x hx=>⟨Nat.le_trans (M_ hx) h5,hcs x hx⟩) (h1.kept hw' (Nat.le_refl _)) (h2.kept hw' (Nat.le_refl _)) (h3.kept hw' (Nat.le_refl _)) (h4.kept hw' (Nat.le_refl _)) R hy hno
 have HB:=h_ fun(h5:j_ Cs<=2000) (w':World) (hw':Below w.heap.size w w')=>b3U L K Fs Cs tn a a2 a3 a4 m m2 m3 m4 w' (hE.below hw') (Ax.n_ ht hw') hL hK hfl (fun x hx=>⟨Nat.le_trans (M_ hx) h5,hcs x hx⟩) (h1.kept hw' (Nat.le_refl _)) (h2.kept hw' (Nat.le_refl _)) (h3.kept hw' (Nat.le_refl _)) (h4.kept hw' (Nat.le_refl _)) R hy hno
 clear hy hno h1 h2 h3 h4 hcs hfl hE ht
 generalize j_ Cs=nd at HN HA HB hcn
 obtain⟨r1,r2⟩:=R
 go_enter Tryz.func7,Tryz.ntmps7
 go_upto_region 1 with(fail)
 refine nA fun w1 hB hw1 hz1=>?_
 have HW:=h_ hw1
 have HBk:=h_ hB
 have p4:=hB.cell 4 rfl
 clear hB hw1 hz1
 go_wp2_with fail
 refine(HN.out w1 HW.out).mono ?_
 rintro e w2 ⟨rfl,hw2⟩
 have HB2:=h_ (HBk.out.below hw2)
 have HW2:=t_ HW hw2
 clear hw2 HBk HW HN p4
 by_cases hc:2000<nd
 ·have c1:(2000:Int)<(nd:Int):=by omega
  have HT2:=h_ (HT.out w2 HW2.out)
  clear HA HB HT hc
  go_wp2_with fail
  refine HT2.out.mono ?_
  rintro e w3 ⟨rfl,hw3⟩
  have HW3:=t_ HW2 hw3
  clear hw3
  go_wp2_with fail
  go_ret
  exact⟨rfl,HW3.out⟩
 ·have c1:¬(2000:Int)<(nd:Int):=by omega
  have HA2:=h_ (HA.out (by omega) w2 HW2.out)
  have HBB:=h_ (HB.out (by omega))
  clear HA HB hc
  obtain⟨p0,p1,p2,p3,p4⟩:=HB2.out.c5
  go_wp2_with fail
  refine HA2.out.mono ?_
  rintro e w3 ⟨rfl,hw3⟩
  have HB3:=h_ (HB2.out.below hw3)
  have HW3:=t_ HW2 hw3
  clear hw3 HA2 HB2 HW2 p0 p1 p2 p3 p4
  have HB4:=h_ (HBB.out w3 HW3.out)
  clear HBB
  obtain⟨p0,p1,p2,p3,p4⟩:=HB3.out.c5
  unfold a4c
  go_wp2_with fail
  refine HB4.out.mono ?_
  rintro e w4 ⟨rfl,hw4⟩
  have HW4:=t_ HW3 hw4
  have HT4:=h_ (HT.out w4 HW4.out)
  clear hw4 HB4 HB3 HW3 HT p0 p1 p2 p3 p4
  unfold a4c
  go_wp2_with fail
  refine HT4.out.mono ?_
  rintro e w5 ⟨rfl,hw5⟩
  have HW5:=t_ HW4 hw5
  clear hw5
  go_wp2_with fail
  go_ret
  exact⟨rfl,HW5.out⟩
end Go.Proofs.YtlimlmjljjmcpaaGreatDoor.Px
