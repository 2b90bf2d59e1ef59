/- Parts of the proof. -/
import Derived.Test.YtgfkglhelfkpoaaGreatRX
set_option maxRecDepth 100000
set_option maxHeartbeats 4000000
open Go.Proofs.Tryz
open Go.Value renaming int→I,slice→V
open Go.IntKind renaming i64→J
open Option renaming some→M,none→U
open Go.Ending renaming returned→If
open Go.Obj renaming cells→Is
open Go renaming World→Iv,Calls→I0,Value→I1,maxLen→I2,Addr→I3
open Go.RowKit renaming Below→Ix
open Nat renaming le_refl→Jn,add_zero→Mm,zero_mul→Mn,le_trans→Mp,zero_add→Mu
open Go.RowKit.Below renaming refl→Jx
open And renaming intro→J0
open Bool renaming and_eq_true→Mb
namespace Go.Proofs.YtgfkglhelfkpoaaGreat
section
open Go.RowKit Plain
def Bo(x y:Int):Int:=if x<y then -1 else if y<x then 1 else 0
theorem XZ(x y:Int)(w:Iv):I0 Tryz.prog 238 #[I J x,I J y] w λe w'=>e=If (I J (Bo x y))/\w=w':=by
 by_cases h1:x<y
 ·have HV:ak (Bo x y=-1):=if_pos h1
  rw[HV.o];go_enter func238,ntmps238;go_wp2;go_ret;exact⟨rfl,rfl⟩
 ·by_cases h2:y<x
  ·have HV:ak (Bo x y=1):=by show _=_;unfold Bo;rw[if_neg h1,if_pos h2]
   rw[HV.o];go_enter func238,ntmps238;go_wp2;go_ret;exact⟨rfl,rfl⟩
  ·have HV:ak (Bo x y=0):=by show _=_;unfold Bo;rw[if_neg h1,if_neg h2]
   rw[HV.o];go_enter func238,ntmps238;go_wp2;go_ret;exact⟨rfl,rfl⟩
theorem M6{a b:List Int}{k:Nat}(hk:k<a.length)(hb:k<b.length):cmpL (a.drop k) (b.drop k)=if Bo (cf a k) (cf b k)=0 then cmpL (a.drop (k+1)) (b.drop (k+1)) else Bo (cf a k) (cf b k):=by
 rw[EP hk hb];unfold Bo;split
 ·rfl
 ·split
  ·rfl
  ·rfl
theorem Al(A B:Option I3)(ca cb:Nat)(a b:List Int)(w:Iv)(hA:Ints w A a)(hB:Ints w B b)(hl:b.length=a.length)(ha:a.length<=9223372036854775807) :
  I0 Tryz.prog 179 #[V A a.length ca,V B a.length cb] w λe w'=>e=If (I J (cmpL a b))/\w=w':=by
 have HA:=aj hA;clear hA;have HB:=aj hB;clear hB;have HL:=aj hl;clear hl;go_enter func179,ntmps179;go_wp2
 go_loop [11] (λi=>∃ (k:Nat),k<=a.length/\i=I J (k:Int)/\ak (cmpL (a.drop k) (b.drop k)=cmpL a b)) (λi=>a.length - (intOf i).toNat)
 case atStart=>exact⟨0,ah,bE,rfl⟩
 case round=>
  obtain⟨k,hk,rfl,HR⟩:=hrel
  by_cases hlt:k<a.length
  ·obtain⟨ba,oa,rfl,_,TD⟩:=HA.o.zC ah
   obtain⟨bb,ob,rfl,_,hcb⟩:=HB.o.zC (by have:=HL.o;omega);have hc1:=TD k hlt;have hc2:=hcb k (by have:=HL.o;omega);have HS:=aj (M6 hlt (by have:=HL.o;omega:k<b.length));have hkl:(k:Int)<(a.length:Int):=ah;clear TD hcb;generalize cf a k=x at *;generalize cf b k=y at *;have HC:=aj (XZ x y w)
   by_cases h1:Bo x y=0
   ·have HV:ak (cmpL (a.drop (k+1)) (b.drop (k+1))=cmpL a b):=by show _=_;rw[<-HR.o,HS.o,if_pos h1]
    rw[h1] at HC;clear HS HR h1;go_wp2_with (go_at_call 238;refine HC.o.mono ?_;rintro e w' ⟨rfl,rfl⟩)
    go_round
    case rel=>exact⟨k+1,ah,bE,HV.o⟩
    case measure=>simp[intOf];omega
   ·have HV:ak (cmpL a b=Bo x y):=by show _=_;rw[<-HR.o,HS.o,if_neg h1]
    generalize Bo x y=z at *;have hz:(z==(0:Int))=false:=by simpa using h1
    clear HS HR h1;go_wp2_with (go_at_call 238;refine HC.o.mono ?_;rintro e w' ⟨rfl,rfl⟩);go_ret;exact⟨bR HV.o.symm,rfl⟩
  ·obtain rfl:k=a.length:=ah
   have HV:ak (cmpL a b=0):=by
    show _=_;rw[<-HR.o,List.drop_length,<-HL.o,List.drop_length];rfl
   clear HR;go_wp2;go_ret;exact⟨bR HV.o.symm,rfl⟩
theorem CB(A:Option I3)(cap:Nat)(a:List Int)(c:Int)(w:Iv)(hA:Ints w A a)(ha:a.length<=12)(dh:jI a=true) :
  I0 Tryz.prog 280 #[.agg #[V A a.length cap,I J c]] w λe w'=>e=If (I J (fB a a.length))/\Ix w.heap.size w w':=by
 have HG:ak (Ix w.heap.size w (w.alloc (Is #[V A a.length cap,I J c] 173))):=by show Ix _ _ _;go_grown
 have HA:=aj (hA.below HG.o);have Il:=aj dh;clear hA dh;go_enter func280,ntmps280;go_wp2
 go_loop [3,9] (λs i=>∃ (k:Nat),k<=a.length/\i=I J (k:Int)/\s=I J (fB a k)) (λ_ i=>a.length - (intOf i).toNat)
 case atStart=>exact⟨0,ah,bE,rfl⟩
 case round=>
  obtain⟨k,hk,rfl,rfl⟩:=hrel;have hb:=xU Il.o k;have hb0:=hb.1;have hb1:fB a k<=144:=ah
  by_cases hlt:k<a.length
  ·obtain⟨ba,oa,rfl,_,TD⟩:=HA.o.zC ah
   have hc1:=TD k hlt;have hx:=iU Il.o k;have hx0:=hx.1;have hx1:=hx.2;have hkl:(k:Int)<(a.length:Int):=ah;have HD:ak (fB a (k+1)=fB a k+cf a k):=rfl;clear TD hb hx;generalize cf a k=x at *;generalize fB a k=d at *;go_wp2
   go_round
   case rel=>exact⟨k+1,ah,bE,by rw[HD.o]⟩
   case measure=>simp[intOf];omega
  ·obtain rfl:k=a.length:=ah
   clear hb;go_wp2;go_ret;exact⟨rfl,HG.o⟩
theorem Zu(x:Int)(w:Iv):I0 Tryz.prog 281 #[I J x] w λe w'=>e=If (.bool (!fP x 0 12))/\w=w':=by
 go_enter func281,ntmps281;go_wp2_with fail;refine (aT _ _ _ _).mono ?_;rintro e w' ⟨rfl,rfl⟩;go_wp2
 all_goals (go_ret;exact⟨by simp[*],rfl⟩)
theorem XR{zs:List Int}:zs.any (λx=>!fP x 0 12)=!jI zs:=by
 unfold jI
 induction zs with
 | nil=>rfl
 | cons x l ih=>simp only[List.any_cons,List.all_cons,ih,Bool.not_and]
theorem KU{v:Int}{t:av}(h:(t.1.length:Int)=v)(h2:fP t.2 1 1000002=true):dL v t=(jI t.1&&decide (fB t.1 t.1.length<=12)):=by unfold dL;simp[h,h2]
theorem Sj(v:Int)(A:Option I3)(cap:Nat)(ts:List av)(w:Iv)(hT:eX w A ts)(hm:ts.length<=1048576)(ht:rE ts<=1048576) :
  I0 Tryz.prog 266 #[fJ v A ts.length cap] w λe w'=>e=If (.bool (aQ v ts))/\Ix w.heap.size w w':=by
 have HG:ak (Ix w.heap.size w (w.alloc (Is #[I J v,V A ts.length cap] 86))):=by show Ix _ _ _;go_grown
 have D_:ak (au (w.alloc (Is #[I J v,V A ts.length cap] 86)) w.heap.size 86 [I J v,V A ts.length cap]):=au.new w _ _;have HT:=aj (hT.below HG.o);have HTT:=aj ht;clear ht hT;cases hv:fP v 0 12
 ·have HE:=aj (Kn (ts:=ts) hv)
  rw[HE.o];have HV:=aj hv;clear hv HE;go_enter func266,ntmps266;go_wp2_with (go_at_call 90;refine (aT _ _ _ _).mono ?_;rintro e w' ⟨rfl,rfl⟩;rw[HV.o]);go_ret;exact⟨rfl,HG.o⟩
 have HV:=aj hv
 by_cases hl:ts.length<=120
 case neg=>
  have HE:=aj (Ol (v:=v) hl);rw[HE.o];clear hv HE;go_enter func266,ntmps266;go_wp2_with (go_at_call 90;refine (aT _ _ _ _).mono ?_;rintro e w' ⟨rfl,rfl⟩;rw[HV.o]);go_ret;exact⟨rfl,HG.o⟩
 have HE:=aj (Sk hv hl);rw[HE.o];have Bz:=bH.1 hv;have hv0:=Bz.1;have hv1:=Bz.2;clear hv HE Bz;obtain⟨W0,aZ⟩:=aD (w.alloc (Is #[I J v,V A ts.length cap] 86))
 have dI:=aj aZ;go_enter func266,ntmps266;go_wp2_with (go_at_call 90;refine (aT _ _ _ _).mono ?_;rintro e w' ⟨rfl,rfl⟩;rw[HV.o]);rw[<-dI.o];rw[<-aZ] at D_ HT HG;clear aZ
 go_loopw [18] (λi wr=>∃ k:Nat,k<=ts.length/\i=I J (k:Int)/\ak (fu v ts k=true)/\ak (Ix W0.heap.size W0 wr)) (λi _=>ts.length - (intOf i).toNat)
 case atStart=>exact⟨0,ah,bE,rfl,Jx _ _⟩
 case round=>
  obtain⟨k,hk,rfl,HU,HB⟩:=hrel
  by_cases hlt:k<ts.length
  ·obtain⟨bt,ot,Ai,ca,rfl,Iu,hc,hc2,hi,_⟩:=(HT.o.below HB.o).at_ hlt
   have hkl:(k:Int)<(ts.length:Int):=ah;have hBX:=D_.o.below HB.o (by have:=D_.o.lt;omega);have hzl:(aR ts k).1.length<=1048576:=Mp (Aw hlt) HTT.o;obtain⟨x,hx⟩:=aD (aR ts k)
   rw[<-hx] at hc hc2 hi hzl;obtain⟨es,c⟩:=x;simp only at hc hc2 hi hzl;have HX:=aj hx;have hg2:Ix wr.heap.size wr (wr.alloc (Is #[V Ai es.length ca,I J c] 173)):=aV;have ae6:=hBX.below hg2 (by have:=hBX.lt;omega);have p0:(wr.alloc (Is #[V Ai es.length ca,I J c] 173)).cell? ⟨w.heap.size,0,U⟩=M (I J v):=ay ae6
   have p1:(wr.alloc (Is #[V Ai es.length ca,I J c] 173)).cell? ⟨w.heap.size,1,U⟩=M (V (M ⟨bt,ot,U⟩) ts.length cap):=ay ae6
   have HB2:=aj (aH HB.o hg2);have Qz:=aj (hi.below hg2);have HUK:=HU.o;clear hi hx;obtain⟨W2,hW2⟩:=aD (wr.alloc (Is #[V Ai es.length ca,I J c] 173))
   have HW2:=aj hW2;have hC:=au.new wr 173 [V Ai es.length ca,I J c];rw[<-hW2] at p0 p1 HB2 Qz;have t0:W2.cell? ⟨wr.heap.size,0,U⟩=M (V Ai es.length ca):=by rw[hW2,hC.cell];rfl
   have t1:W2.cell? ⟨wr.heap.size,1,U⟩=M (I J c):=by rw[hW2,hC.cell];rfl
   have hcz:k=0->wr.cell? ⟨bt,ot,U⟩=M (V Ai es.length ca)/\wr.cell? ⟨bt,ot+1,U⟩=M (I J c):=λh=>by subst h;simpa using J0 hc hc2
   clear hBX ae6 hg2 hW2 hC HUK
   by_cases hel:(es.length:Int)=v
   case neg=>
    have hd:((es.length:Int) != v)=true:=by simpa using hel
    have HF:=aj (kF (v:=v) (ts:=ts) (k:=k) (by rw[<-HX.o];exact OO hel) hlt);clear hel
    rcases Nat.eq_zero_or_pos k with hk0 | hk0
    ·subst hk0
     have z0:=(hcz rfl).1;have z1:=(hcz rfl).2;clear hc hc2 hcz;go_wp2;rw[<-HW2.o];go_quiet (fail);go_wp2;go_ret;exact⟨aG HF.o.symm,aH HG.o (below_drewN' HB2.o _)⟩
    ·clear hcz
     go_wp2;rw[<-HW2.o];go_quiet (fail);go_wp2;go_ret;exact⟨aG HF.o.symm,aH HG.o (below_drewN' HB2.o _)⟩
   have hd:((es.length:Int) != v)=false:=by simpa using hel
   have aaH:ak (∀ n,I0 Tryz.prog 90 #[I J c,I J 1,I J 1000002] (W2.drewN n) λe w'=>e=If (.bool (fP c 1 1000002))/\w'=W2.drewN n):=λn=>
    (aT c 1 1000002 (W2.drewN n)).mono λe w' ⟨h1,h2⟩=>⟨h1,h2.symm⟩
   cases hcc:fP c 1 1000002
   ·have HF:=aj (kF (v:=v) (ts:=ts) (k:=k) (by rw[<-HX.o];exact KT hcc) hlt)
    have Tq:ak _:=aaH;rw[hcc] at Tq;clear hel hcc aaH
    rcases Nat.eq_zero_or_pos k with hk0 | hk0
    ·subst hk0
     have z0:=(hcz rfl).1;have z1:=(hcz rfl).2;clear hc hc2 hcz;go_wp2;rw[<-HW2.o];go_quiet (first | (go_at_call 90;exact Calls.quiet_of_same (Tq.o _)));go_wp2;go_ret;exact⟨aG HF.o.symm,aH HG.o (below_drewN' HB2.o _)⟩
    ·clear hcz
     go_wp2;rw[<-HW2.o];go_quiet (first | (go_at_call 90;exact Calls.quiet_of_same (Tq.o _)));go_wp2;go_ret;exact⟨aG HF.o.symm,aH HG.o (below_drewN' HB2.o _)⟩
   have Tq:ak _:=aaH;rw[hcc] at Tq;have HTF:ak (dL v (aR ts k)=(jI es&&decide (fB es es.length<=12))):=by show _=_;rw[<-HX.o];exact KU hel hcc
   have hp:ak (∀ x,I0 Tryz.prog 281 (#[I J x]++#[]) W2 λe w'=>e=If (.bool ((λx=>!fP x 0 12) x))/\W2=w'):=λx=>Zu x W2
   have HCF:ak (∀ n,I0 Tryz.prog 130 #[V Ai es.length ca,.func (.func 281) #[] #[]] (W2.drewN n) λe w'=>e=If (.bool (!jI es))/\W2.drewN n=w'):=λn=>
    (vV Ai ca es (W2.drewN n) Qz.o ah 281 (enters func281 aL rfl) #[] (λx=>!fP x 0 12) (λx=>Zu x _)).mono λe w' ⟨h1,h2⟩=>⟨by rw[h1,XR],h2⟩
   have HDG:ak (∀ n,jI es=true->I0 Tryz.prog 280 #[.agg #[V Ai es.length ca,I J c]] (W2.drewN n) λe w'=>e=If (I J (fB es es.length))/\Ix (W2.drewN n).heap.size (W2.drewN n) w'):=λn h=>
    CB Ai ca es c (W2.drewN n) Qz.o ah h
   clear hp aaH hcc;obtain⟨eo,heo⟩:=aD (jI es)
   obtain⟨dg,hdg⟩:=aD (fB es es.length)
   rw[<-heo] at HTF HCF HDG;rw[<-hdg] at HTF HDG;have HDB:ak (eo=true->0<=dg/\dg<=144):=λh=>by
    have:=xU (a:=es) (by rw[<-heo];exact h) es.length;rw[hdg];omega
   clear heo hdg
   rcases Nat.eq_zero_or_pos k with hk0 | hk0
   ·subst hk0
    have z0:=(hcz rfl).1;have z1:=(hcz rfl).2;clear hc hc2 hcz;have HNX:ak (dL v (aR ts 0)=true->fu v ts (0+1)=true):=λh=>A_ HU.o h (Or.inl rfl)
    clear hel;cases eo
    ·have HF:=aj (kF (v:=v) (ts:=ts) (k:=0) (by rw[HTF.o];rfl) hlt)
     go_wp2;rw[<-HW2.o];go_quiet (first | (go_at_call 90;exact Calls.quiet_of_same (Tq.o _)));have Cn:=aj (HCF.o nq);go_wp2_with (go_at_call 130;refine Cn.o.mono ?_;rintro e w' ⟨rfl,rfl⟩);go_ret;exact⟨aG HF.o.symm,aH HG.o (below_drewN' HB2.o _)⟩
    ·have Lb:=HDB.o rfl
     have akG:=Lb.1;have akH:=Lb.2;clear Lb
     by_cases YX:dg<=12
     ·have Vw:=aj (HNX.o (by rw[HTF.o];simpa using YX))
      have hdd:decide (12<dg)=false:=by simp;omega
      go_wp2;rw[<-HW2.o];go_quiet (first | (go_at_call 90;exact Calls.quiet_of_same (Tq.o _)));have Lh:(W2.drewN nq).cell? ⟨wr.heap.size,0,U⟩=M (V Ai es.length ca):=t0;have Li:(W2.drewN nq).cell? ⟨wr.heap.size,1,U⟩=M (I J c):=t1;have Cn:=aj (HCF.o nq);have LG:=aj (HDG.o nq (by simp));go_wp2_with (first | (go_at_call 130;refine Cn.o.mono ?_;rintro e w' ⟨rfl,rfl⟩) | (go_at_call 280;refine LG.o.mono ?_;rintro e w3 ⟨rfl,hb3⟩))
      have HB3:=aj (aH (below_drewN' HB2.o nq) hb3)
      go_roundw
      case rel=>exact⟨0+1,ah,bE,Vw.o,HB3.o⟩
      case measure=>simp[intOf];omega
     ·have HF:=aj (kF (v:=v) (ts:=ts) (k:=0) (by rw[HTF.o];simpa using YX) hlt)
      have hdd:decide (12<dg)=true:=by simp;omega
      go_wp2;rw[<-HW2.o];go_quiet (first | (go_at_call 90;exact Calls.quiet_of_same (Tq.o _)));have Lh:(W2.drewN nq).cell? ⟨wr.heap.size,0,U⟩=M (V Ai es.length ca):=t0;have Li:(W2.drewN nq).cell? ⟨wr.heap.size,1,U⟩=M (I J c):=t1;have Cn:=aj (HCF.o nq);have LG:=aj (HDG.o nq (by simp));go_wp2_with (first | (go_at_call 130;refine Cn.o.mono ?_;rintro e w' ⟨rfl,rfl⟩) | (go_at_call 280;refine LG.o.mono ?_;rintro e w3 ⟨rfl,hb3⟩))
      go_ret;exact⟨aG HF.o.symm,aH HG.o (aH (below_drewN' HB2.o nq) hb3)⟩
   ·obtain⟨bt',ot',Aj,cj,hAe,ami,hdj,akI,hj,_⟩:=(HT.o.below HB.o).at_ (show k - 1<ts.length by omega)
    obtain⟨rfl,rfl⟩:bt=bt'/\ot=ot':=by simpa using hAe
    have hpk:dL v (aR ts (k - 1))=true:=by
     have h3:=HU.o;obtain⟨j,rfl⟩:∃ j,k=j+1:=⟨k - 1,ah⟩
     simp only[fu,Mb] at h3;exact h3.2.1
    obtain⟨i,GH,hi2,hi3⟩:∃ i:Nat,((k:Int) - 1=i)/\i=k - 1/\i<ts.length:=⟨k - 1,ah,rfl,ah⟩
    have hkw:IntKind.i64.wrap ((k:Int) - 1)=i:=by rw[IntKind.wrap_i64];omega
    have hk1:0<(k:Int):=ah;rw[<-hi2] at hdj hj hpk;have hlj:es.length=(aR ts i).1.length:=by have:=(bV hpk).1;omega
    obtain⟨pe,hpe⟩:=aD ((aR ts i).1)
    rw[<-hpe] at hdj hj hlj;have HPE:=aj hpe;have amr:W2.cell? ⟨bt,ot+i*2,U⟩=M (V Aj es.length cj):=by
     rw[HW2.o,World.cell?_alloc_lt _ _ _ (World.block_lt_of_cell? _ _ hdj),hlj];exact hdj
    have agq:ak (Ints W2 Aj pe):=by
     have hg3:Ix wr.heap.size wr W2:=by rw[HW2.o];go_grown
     exact hj.below hg3
    have HCP:ak (∀ n,I0 Tryz.prog 179 #[V Aj es.length cj,V Ai es.length ca] (W2.drewN n) λe w'=>e=If (I J (cmpL pe es))/\w'=W2.drewN n):=λn=>by
     have h1:=Al Aj Ai cj ca pe es (W2.drewN n) agq.o Qz.o hlj ah;rw[<-hlj] at h1;exact h1.mono λe w' ⟨h1,h2⟩=>⟨h1,h2.symm⟩
    obtain⟨z,hz⟩:=aD (cmpL pe es)
    rw[<-hz] at HCP;have HZ:ak (z=cmpL (aR ts (k - 1)).1 (aR ts k).1):=by show _=_;rw[hz,HPE.o,hi2,<-HX.o]
    clear hcz hj hlj hpe hpk hdj akI hz HPE agq hel GH hi2
    by_cases hz0:z<0
    ·have HNX:ak (dL v (aR ts k)=true->fu v ts (k+1)=true):=λh=>A_ HU.o h (Or.inr (by rw[<-HZ.o];exact hz0))
     have hzd:decide (0<=z)=false:=by simp;omega
     clear HZ;cases eo
     ·have HF:=aj (kF (v:=v) (ts:=ts) (k:=k) (by rw[HTF.o];rfl) hlt)
      go_wp2;rw[<-HW2.o];go_quiet (first | (go_at_call 90;exact Calls.quiet_of_same (Tq.o _)) | (go_at_call 179;exact Calls.quiet_of_same (HCP.o _)));have Cn:=aj (HCF.o nq);go_wp2_with (go_at_call 130;refine Cn.o.mono ?_;rintro e w' ⟨rfl,rfl⟩);go_ret;exact⟨aG HF.o.symm,aH HG.o (below_drewN' HB2.o _)⟩
     ·have Lb:=HDB.o rfl
      have akG:=Lb.1;have akH:=Lb.2;clear Lb
      by_cases YX:dg<=12
      ·have Vw:=aj (HNX.o (by rw[HTF.o];simpa using YX))
       have hdd:decide (12<dg)=false:=by simp;omega
       go_wp2;rw[<-HW2.o];go_quiet (first | (go_at_call 90;exact Calls.quiet_of_same (Tq.o _)) | (go_at_call 179;exact Calls.quiet_of_same (HCP.o _)));have Lh:(W2.drewN nq).cell? ⟨wr.heap.size,0,U⟩=M (V Ai es.length ca):=t0;have Li:(W2.drewN nq).cell? ⟨wr.heap.size,1,U⟩=M (I J c):=t1;have Cn:=aj (HCF.o nq);have LG:=aj (HDG.o nq (by simp));go_wp2_with (first | (go_at_call 130;refine Cn.o.mono ?_;rintro e w' ⟨rfl,rfl⟩) | (go_at_call 280;refine LG.o.mono ?_;rintro e w3 ⟨rfl,hb3⟩))
       have HB3:=aj (aH (below_drewN' HB2.o nq) hb3)
       go_roundw
       case rel=>exact⟨k+1,ah,bE,Vw.o,HB3.o⟩
       case measure=>simp[intOf];omega
      ·have HF:=aj (kF (v:=v) (ts:=ts) (k:=k) (by rw[HTF.o];simpa using YX) hlt)
       have hdd:decide (12<dg)=true:=by simp;omega
       go_wp2;rw[<-HW2.o];go_quiet (first | (go_at_call 90;exact Calls.quiet_of_same (Tq.o _)) | (go_at_call 179;exact Calls.quiet_of_same (HCP.o _)));have Lh:(W2.drewN nq).cell? ⟨wr.heap.size,0,U⟩=M (V Ai es.length ca):=t0;have Li:(W2.drewN nq).cell? ⟨wr.heap.size,1,U⟩=M (I J c):=t1;have Cn:=aj (HCF.o nq);have LG:=aj (HDG.o nq (by simp));go_wp2_with (first | (go_at_call 130;refine Cn.o.mono ?_;rintro e w' ⟨rfl,rfl⟩) | (go_at_call 280;refine LG.o.mono ?_;rintro e w3 ⟨rfl,hb3⟩))
       go_ret;exact⟨aG HF.o.symm,aH HG.o (aH (below_drewN' HB2.o nq) hb3)⟩
    ·have HN:=aj (Om (v:=v) hk0 (by rw[<-HZ.o];exact hz0) hlt)
     have hzd:decide (0<=z)=true:=by simp;omega
     clear HZ;go_wp2;rw[<-HW2.o];go_quiet (first | (go_at_call 90;exact Calls.quiet_of_same (Tq.o _)) | (go_at_call 179;exact Calls.quiet_of_same (HCP.o _)));go_wp2;go_ret;exact⟨aG HN.o.symm,aH HG.o (below_drewN' HB2.o _)⟩
  ·obtain rfl:k=ts.length:=ah
   go_wp2;go_ret;exact⟨aG HU.o.symm,aH HG.o HB.o⟩
end
end Go.Proofs.YtgfkglhelfkpoaaGreat
open Go.Proofs.Tryz
namespace Go.Proofs.YtgfkglhelfkpoaaGreat
section
open Go.RowKit Plain
def jq(w:Iv):Es->Nat->Nat->Nat->Nat->Prop
 | .nil,lo,hi,_,_=>lo<=hi
 | .cons k n p c ks r,lo,hi,b,o=>∃ (K:Option I3) (cap b' l h:Nat),ExM w b o k n p c (V K ks.len cap)/\ks.len<=cap/\cap<=I2/\(0<ks.len->K=M ⟨b',0,U⟩/\l<=b'/\b'<h)/\lo<=l/\(b<l∨h<=b) /\
   jq w ks l h b' 0/\jq w r h hi b (o+5)
variable{w:Iv}
theorem jq.le:∀ {es:Es}{lo hi b o:Nat},jq w es lo hi b o->lo<=hi
 | .nil,_,_,_,_,h=>h
 | .cons _ _ _ _ _ _,_,_,_,_,⟨_,_,_,_,_,_,_,_,_,h1,_,hk,hr⟩=>by have:=jq.le hr;have:=jq.le hk;omega
variable{w':Iv}
theorem jq.keep:∀ {es:Es}{lo hi b o:Nat},jq w es lo hi b o->aN w w' b o (o+es.len*5)->(∀ q,lo<=q->q<hi->q≠b->w'.heap[q]? = w.heap[q]?)->jq w' es lo hi b o:=by
 intro es
 induction es with
 | nil=>intro lo hi b o h _ _;exact h
 | cons k n p c ks r BR qz=>
  rintro lo hi b o ⟨K,cap,b',l,h,h0,hc,hm,hK,h1,h2,hk,hr⟩ hs hb;simp only[Es.len] at hs;have hle:=hr.le;have hlk:=hk.le;refine⟨K,cap,b',l,h,h0.keep (hs.sub (Jn _) ah),hc,hm,hK,h1,h2, ?_,qz hr (hs.sub ah ah) (λq hq BQ hne=>hb q ah BQ hne)⟩;cases ks with
  | nil=>exact hk
  | cons _ _ _ _ _ _=>
   have h3:=hK (by simp[Es.len]);exact BR hk (aN.of_block (hb b' ah ah ah) _ _) (λq hq BQ _=>hb q ah ah ah)
variable{B:Nat}
theorem jq.exs:∀ {es:Es}{lo hi b o:Nat},jq w es lo hi b o->hi<=B->b<B->aI w B es b o:=by
 intro es
 induction es with
 | nil=>intro lo hi b o _ _ _;trivial
 | cons k n p c ks r BR qz=>
  rintro lo hi b o ⟨K,cap,b',l,h,⟨⟨h0,h1,h2,h3,h4⟩,_⟩,hc,hm,hK,l1,l2,hk,hr⟩ hB hb;have hle:=hr.le;refine⟨⟨hb,h0,h1,h2,h3,K,cap,b',0,h4,hc,hm,λhn=>(hK hn).1, ?_⟩,qz hr hB hb⟩;cases ks with
  | nil=>trivial
  | cons _ _ _ _ _ _=>exact BR hk ah (by have:=hK (by simp[Es.len]);omega)
theorem jq.wide:∀ {es:Es}{lo hi rY hi' b o:Nat},jq w es lo hi b o->rY<=lo->hi<=hi'->jq w es rY hi' b o:=by
 intro es
 induction es with
 | nil=>intro lo hi rY hi' b o h h1 h2;have:lo<=hi:=h;show rY<=hi';omega
 | cons k n p c ks r BR qz=>
  rintro lo hi rY hi' b o ⟨K,cap,b',l,h,h0,hc,hm,hK,l1,l2,hk,hr⟩ e1 e2;exact⟨K,cap,b',l,h,h0,hc,hm,hK,ah,l2,hk,qz hr (Jn _) e2⟩
theorem jq.app:∀ {es r:Es}{lo mid hi b o:Nat},jq w es lo mid b o->jq w r mid hi b (o+es.len*5)->jq w (es.app r) lo hi b o:=by
 intro es
 induction es with
 | nil=>intro r lo mid hi b o h hr;simp only[Es.len,Mn,Mm] at hr;exact hr.wide h (Jn _)
 | cons k n p c ks r' BR qz=>
  rintro r lo mid hi b o ⟨K,cap,b',l,h,h0,hc,hm,hK,l1,l2,hk,hr⟩ h2;simp only[Es.len] at h2;exact⟨K,cap,b',l,h,h0,hc,hm,hK,l1,l2,hk,qz hr (by rwa [show o+(r'.len+1)*5=o+5+r'.len*5 by omega] at h2)⟩
def rV:Es->Int->Es
 | .nil,_=>.nil
 | .cons _ _ _ _ ks r,y=>.cons y (y+1) (y+1+1) (y+1+1+1) (rV ks (y+1+1+1+1)) (rV r (y+1+1+1+1+4*ks.size))
theorem qA(es:Es)(y:Int):(rV es y).len=es.len:=by
 induction es generalizing y with
 | nil=>rfl
 | cons k n p c ks r BR qz=>simp only[rV,Es.len,qz]
theorem dX(w:Iv)(b i j:Nat)(v:I1)(h:i≠j):(w.setCell ⟨b,i,U⟩ v).cell? ⟨b,j,U⟩=w.cell? ⟨b,j,U⟩:=World.cell?_setCell_other _ _ _ _ (λe=>by injection e with _ h' _;omega)
variable{b:Nat}
theorem vW{i:Nat}{u:I1}(v:I1)(h:w.cell? ⟨b,i,U⟩=M u):(w.setCell ⟨b,i,U⟩ v).cell? ⟨b,i,U⟩=M v:=World.cell?_setCell_same _ _ _ h
theorem abx{o:Nat}{k n p c:Int}{v:I1}(h:ExM w b o k n p c v)(y:Int):ExM (mk4 w b o y) b o y (y+1) (y+1+1) (y+1+1+1) v:=by
 obtain⟨⟨h0,h1,h2,h3,h4⟩,hf⟩:=h;refine⟨⟨?_, ?_, ?_, ?_, ?_⟩,λi hi=>?_⟩
 ·unfold mk4
  rw[dX _ _ _ _ _ ah,dX _ _ _ _ _ ah,dX _ _ _ _ _ ah,vW _ h0]
 ·unfold mk4
  rw[dX _ _ _ _ _ ah,dX _ _ _ _ _ ah,vW (u:=I J n) _ (by rw[dX _ _ _ _ _ ah,h1])]
 ·unfold mk4
  rw[dX _ _ _ _ _ ah,vW (u:=I J p) _ (by rw[dX _ _ _ _ _ ah,dX _ _ _ _ _ ah,h2])]
 ·unfold mk4
  rw[vW (u:=I J c) _ (by rw[dX _ _ _ _ _ ah,dX _ _ _ _ _ ah,dX _ _ _ _ _ ah,h3])]
 ·unfold mk4
  rw[dX _ _ _ _ _ ah,dX _ _ _ _ _ ah,dX _ _ _ _ _ ah,dX _ _ _ _ _ ah,h4]
 ·exact (World.frozen?_setCell _ _ _ _).trans ((World.frozen?_setCell _ _ _ _).trans ((World.frozen?_setCell _ _ _ _).trans ((World.frozen?_setCell _ _ _ _).trans (hf i hi))))
theorem QM(a b c:Es):(a.app b).app c=a.app (b.app c):=by
 induction a with
 | nil=>rfl
 | cons k n p c' ks r _ qz=>simp only[Es.app,qz]
def MkG(es:Es):Prop:=∀ (A:Option I3) (cap b lo hi:Nat) (k:Int) (w:Iv),(0<es.len->A=M ⟨b,0,U⟩/\b<w.heap.size)->jq w es lo hi b 0->hi<=w.heap.size->es.size<=1048576->0<=k->k+4*es.size<=1000000000000 ->
 I0 Tryz.prog 82 #[V A es.len cap,I J k] w λe w'=>e=If (I J (k+4*es.size))/\jq w' (rV es k) lo hi b 0/\aC (λq=>(0<es.len/\q=b)∨(lo<=q/\q<hi)) w w'
theorem RX:∀ (m:Nat) (es:Es),es.size<m->MkG es:=by
 intro m
 induction m with
 | zero=>intro es h;omega
 | succ m ih=>
 intro es hm A cap b lo hi k w hA hM hhi hz k0 k1;have IH:=aj ih;clear ih;have hls:=Es.aF es;have HM:=aj hM;clear hM;go_enter func82,ntmps82;go_wp2
 go_loopw [1,5] (λkk i wr=>∃ (j:Nat) (es' pre:Es) (y:Int) (rY:Nat),i=I J (j:Int)/\kk=I J y/\pre.len=j/\j+es'.len=es.len/\ak (y+4*es'.size=k+4*es.size)/\0<=y/\y<=1000000000000/\ak (es'.size<=es.size)/\lo<=rY/\ak (jq wr pre lo rY b 0)/\ak (pre.app (rV es' y)=rV es k)/\ak (jq wr es' rY hi b (j*5)) /\
   ak (aC (λq=>(0<es.len/\q=b)∨(lo<=q/\q<hi)) w wr)) (λ_ i _=>es.len - (intOf i).toNat)
 case atStart=>
  refine⟨0,es,.nil,k,lo,bE,by simp,rfl,ah,rfl,k0,ah,Jn _,Jn _,Jn _,rfl, ?_,aC.refl _ _⟩;show jq _ _ _ _ _ _;rw[Mn];exact HM.o
 case round=>
  obtain⟨j,es',pre,y,rY,rfl,rfl,hpj,hj,hy,y0,y1,hsz,hlo,HP,HPE,HE,HO⟩:=hrel;cases es' with
  | nil=>
   simp only[Es.len] at hj;go_wp2;go_ret;have:=hy.o;simp only[Es.size] at this;refine⟨bR ah, ?_,HO.o⟩;have he:=HPE.o;simp only[rV,Es.oQ] at he;rw[<-he];exact HP.o.wide (Jn _) HE.o
  | cons kk n p c ks r=>
   simp only[Es.len] at hj;obtain⟨hA,hbw⟩:=hA ah;subst hA;obtain⟨K,cp,b',l,h,hx0,hc,hcm,hK,l1,l2,hks,hr⟩:=HE.o;obtain⟨⟨h0,h1,h2,h3,h4⟩,hf⟩:=id hx0;have hle:=hr.le;have hlk:=hks.le;have f0:=hf 0 ah;have f1:=hf 1 ah;have f2:=hf 2 ah;have f3:=hf 3 ah;rw[Mm] at f0;have hbs:b<wr.heap.size:=World.block_lt_of_cell? _ _ h0;have hrs:ak (r.size<=es.size/\ks.size<es.size/\y+4+4*ks.size+4*r.size=k+4*es.size):=by
    have:=hsz.o;have h2:=hy.o;simp only[Es.size] at this h2;exact⟨ah,ah,ah⟩
   have HX4:=aj (abx hx0 y);have BH:ak (jq (mk4 wr b (j*5) y) ks l h b' 0):=by
    cases ks with
    | nil=>exact hks
    | cons _ _ _ _ _ _=>
     have h3:=hK (by simp[Es.len]);exact hks.keep (aN.of_block (kC y ah) _ _) (λq q1 q2 _=>kC y ah)
   have Tj:ak (jq (mk4 wr b (j*5) y) r h hi b (j*5+5)):=hr.keep ((yH y _).sub ah (Jn _)) (λq _ _ hq=>kC y hq);have Bj:ak (jq (mk4 wr b (j*5) y) pre lo rY b 0):=HP.o.keep (by
    rw[hpj,Mu];unfold mk4;exact (((aN.aJ (.inr ah)).trans (aN.aJ (.inr ah))).trans (aN.aJ (.inr ah))).trans (aN.aJ (.inr ah))) (λq _ _ hq=>kC y hq)
   have x4:(mk4 wr b (j*5) y).cell? ⟨b,j*5+4,U⟩=M (V K ks.len cp):=((yH y (j*5+5)) _ (Jn _) ah).1.trans h4;have uZ:=aj (HO.o.chain (J9 y (b:=b) (o:=j*5)) (λq _ e=>.inl ⟨ah,e⟩));have NT:(mk4 wr b (j*5) y).heap.size=wr.heap.size:=by simp[mk4,World.setCell]
   have amg:=HO.o.size;have LC:=aj (IH.o ks (by have:=hrs.o;omega) K cp b' l h (y+1+1+1+1) (mk4 wr b (j*5) y) (λhn=>⟨(hK hn).1,by have:=hK hn;omega⟩) BH.o ah (by have:=hrs.o;omega) ah (by have:=hrs.o;omega));have HKb:ak (0<ks.len->K=M ⟨b',0,U⟩/\l<=b'/\b'<h):=hK;clear hks hr BH HE IH hx0 HP hK;unfold mk4 at x4 LC;go_wp2_with fail;refine LC.o.mono ?_;rintro e w1 ⟨rfl,yj,fC⟩
   have Rq:∀ q,q<wr.heap.size->¬ (l<=q/\q<h)->w1.heap[q]? = (mk4 wr b (j*5) y).heap[q]?:=λq hq hn=>fC.block q (by unfold mk4 at NT;omega) (λhs=>by
    rcases hs with ⟨h0,rfl⟩ | hs
    ·exact hn (HKb.o h0).2
    ·exact hn hs)
   have qL:ak (jq w1 r h hi b ((j+1)*5)):=by
    have:=Tj.o.keep (w':=w1) (aN.of_block (Rq b hbs ah) _ _) (λq q1 q2 _=>Rq q ah ah)
    rwa [show j*5+5=(j+1)*5 by omega] at this
   have HP1:=Bj.o.keep (w':=w1) (aN.of_block (Rq b hbs ah) _ _) (λq q1 q2 _=>Rq q ah ah);have hX1:ExM w1 b (j*5) y (y+1) (y+1+1) (y+1+1+1) (V K ks.len cp):=HX4.o.keep (aN.of_block (Rq b hbs ah) _ _);have dZ:ak (aC (λq=>(0<es.len/\q=b)∨(lo<=q/\q<hi)) w w1):=uZ.o.chain fC (λq _ h=>by
    rcases h with ⟨h0,rfl⟩ | h
    ·have:=HKb.o h0;exact .inr ⟨ah,ah⟩
    ·exact .inr ⟨ah,ah⟩)
   obtain⟨z,hzz⟩:∃ z,z=y+1+1+1+1+4*(ks.size:Int):=⟨_,rfl⟩
   have mU:ak (jq w1 (pre.app (.cons y (y+1) (y+1+1) (y+1+1+1) (rV ks (y+1+1+1+1)) .nil)) lo h b 0):=
    HP1.app (mid:=rY) ⟨K,cp,b',l,h,by rw[qA,Mu,hpj];exact hX1,by rw[qA];exact hc,hcm,λhn=>by rw[qA] at hn;exact HKb.o hn,l1,l2,yj,Jn _⟩
   have ajr:ak ((pre.app (.cons y (y+1) (y+1+1) (y+1+1+1) (rV ks (y+1+1+1+1)) .nil)).app (rV r z)=rV es k):=by
    show _=_;rw[<-HPE.o,hzz];rw[QM];rfl
   rw[<-hzz];have z0:0<=z:=ah;have z1:z<=1000000000000:=by have:=hrs.o;omega
   have HZ:ak (z+4*r.size=k+4*es.size):=by have:=hrs.o;show _=_;omega
   clear fC uZ Tj x4 hzz LC HO Rq HP1 hX1 Bj HX4 yj HPE;go_wp2
   go_roundw
   case rel=>exact⟨j+1,r,_,z,h,bE,rfl,by rw[Es.aaO];simp[Es.len,hpj],ah,HZ,z0,z1,hrs.o.1,ah,mU,ajr,qL,dZ⟩
   case measure=>simp[intOf];omega
def HdC(es:Es):Prop:=∀ (A:Option I3) (cap b o B:Nat) (k:Int) (w:Iv),(0<es.len->A=M ⟨b,o,U⟩)->aI w B (rV es k) b o->B<=w.heap.size->es.size<=1048576->0<=k->k+4*es.size<=1000000000000 ->
 I0 Tryz.prog 83 #[V A es.len cap,I J k] w λe w'=>e=If (I J (k+4*es.size))/\w=w'
theorem Et:∀ (m:Nat) (es:Es),es.size<m->HdC es:=by
 intro m
 induction m with
 | zero=>intro es h;omega
 | succ m ih=>
 intro es hm A cap b o B k w hA hE hB hz k0 k1;have IH:=aj ih;clear ih;have hls:=Es.aF es;have HE:=aj hE;clear hE;go_enter func83,ntmps83;go_wp2
 go_loop [1,5] (λkk i=>∃ (j:Nat) (es':Es) (y:Int),i=I J (j:Int)/\kk=I J y/\j+es'.len=es.len/\ak (y+4*es'.size=k+4*es.size)/\0<=y/\y<=1000000000000/\ak (es'.size<=es.size)/\ak (aI w B (rV es' y) b (o+j*5))) (λ_ i=>es.len - (intOf i).toNat)
 case atStart=>
  refine⟨0,es,k,bE,rfl,ah,rfl,k0,ah,Jn _, ?_⟩;show aI _ _ _ _ _;rw[Mn,Mm];exact HE.o
 case round=>
  obtain⟨j,es',y,rfl,rfl,hj,hy,y0,y1,hsz,HR⟩:=hrel;cases es' with
  | nil=>
   simp only[Es.len] at hj;go_wp2;go_ret;have:=hy.o;simp only[Es.size] at this;exact⟨bR ah,rfl⟩
  | cons kk n p c ks r=>
   simp only[Es.len] at hj;have hA:=hA ah;subst hA;obtain⟨⟨hb,h0,h1,h2,h3,K,cp,b',o',h4,hc,hcm,hK,hks⟩,hr⟩:=HR.o;rw[qA] at h4 hK;have hrs:ak (r.size<=es.size/\ks.size<es.size/\y+4+4*ks.size+4*r.size=k+4*es.size):=by
    have:=hsz.o;have h2:=hy.o;simp only[Es.size] at this h2;exact⟨ah,ah,ah⟩
   have HC:=aj (IH.o ks (by have:=hrs.o;omega) K cp b' o' B (y+1+1+1+1) w hK hks hB (by have:=hrs.o;omega) ah (by have:=hrs.o;omega));obtain⟨z,hzz⟩:∃ z,z=y+1+1+1+1+4*(ks.size:Int):=⟨_,rfl⟩
   have qL:ak (aI w B (rV r z) b (o+(j+1)*5)):=by
    show aI _ _ _ _ _;rw[hzz,show o+(j+1)*5=o+j*5+5 by omega];exact hr
   rw[<-hzz] at HC;have z0:0<=z:=ah;have z1:z<=1000000000000:=by have:=hrs.o;omega
   have HZ:ak (z+4*r.size=k+4*es.size):=by have:=hrs.o;show _=_;omega
   clear hks hr HR IH hzz;go_wp2_with fail;refine HC.o.mono ?_;rintro e w' ⟨rfl,rfl⟩;go_wp2
   go_round
   case rel=>exact⟨j+1,r,z,bE,rfl,ah,HZ,z0,z1,hrs.o.1,qL⟩
   case measure=>simp[intOf];omega
def b_(lo hi:Nat)(ks:Es)(K:Option I3)(w:Iv):Prop:=∃ b,(0<ks.len->K=M ⟨b,0,U⟩/\lo<=b/\b<hi)/\jq w ks lo hi b 0
variable{lo hi:Nat}{ks:Es}{K:Option I3}
theorem b_.keep(h:b_ lo hi ks K w)(hb:∀ q,lo<=q->q<hi->w'.heap[q]? = w.heap[q]?):b_ lo hi ks K w':=by
 obtain⟨b,h1,h2⟩:=h;refine⟨b,h1, ?_⟩;cases ks with
 | nil=>exact h2
 | cons _ _ _ _ _ _=>
  have h3:=h1 (by simp[Es.len]);exact h2.keep (aN.of_block (hb b h3.2.1 h3.2.2) _ _) (λq h1 h2 _=>hb q h1 h2)
theorem b_.sl(h:b_ lo hi ks K w)(hB:hi<=B):bJ w B ks K:=by
 obtain⟨b,h1,h2⟩:=h;cases ks with
 | nil=>exact⟨0,0,λh=>absurd h (by simp[Es.len]),trivial⟩
 | cons _ _ _ _ _ _=>
  have h3:=h1 (by simp[Es.len]);exact⟨b,0,λ_=>h3.1,h2.exs hB ah⟩
end
section
open Plain
def aiy(n:Int):Nd:=⟨1,n,0,0,.nil⟩
def alp(n:Int):Nd:=⟨2,n,0,0,.nil⟩
def aiG(x y:Nd):Es:=.cons x.k x.n x.p x.c x.ks (.cons y.k y.n y.p y.c y.ks .nil)
def aiA(k:Int)(x y:Nd):Nd:=⟨k,0,0,0,aiG x y⟩
def aiB(x:Nd)(v:Int):Nat->Nd
 | 0=>x
 | n+1=>aiA 5 (aiB x v n) (alp v)
def ZN(c:Int)(es:List Int):Nat->Nd
 | 0=>aiy c
 | k+1=>aiB (ZN c es k) k (cf es k).toNat
def jg(ts:List av):Nat->Nd
 | 0=>aiy 0
 | k+1=>if k=0 then ZN (aR ts k).2 (aR ts k).1 (aR ts k).1.length else aiA 3 (jg ts k) (ZN (aR ts k).2 (aR ts k).1 (aR ts k).1.length)
end
section
open Go.RowKit Plain
def jH(x:Nd)(w:Iv)(e:Ending)(w':Iv):Prop:=
 Ix w.heap.size w w'/\∃ K cap,e=If (exV x.k x.n x.p x.c K x.ks.len cap)/\x.ks.len<=cap/\cap<=I2/\b_ w.heap.size w'.heap.size x.ks K w'
variable{lo hi:Nat}{ks:Es}{K:Option I3}{w:Iv}
theorem b_.wide{rY hi':Nat}(h:b_ lo hi ks K w)(h1:rY<=lo)(h2:hi<=hi'):b_ rY hi' ks K w:=by
 obtain⟨b,hb,he⟩:=h;exact⟨b,λhn=>by have:=hb hn;exact⟨this.1,ah,ah⟩,he.wide h1 h2⟩
theorem b_.le(h:b_ lo hi ks K w):lo<=hi:=by obtain⟨b,_,he⟩:=h;exact he.le
theorem b_.nil(K:Option I3)(w:Iv)(h:lo<=hi):b_ lo hi .nil K w:=⟨0,λhn=>absurd hn (by simp[Es.len]),h⟩
theorem b_.below{w':Iv}(h:b_ lo hi ks K w)(hb:Ix w.heap.size w w')(hh:hi<=w.heap.size):b_ lo hi ks K w':=
 h.keep (λq _ h2=>hb.block q ah)
end
end Go.Proofs.YtgfkglhelfkpoaaGreat
open Go.Proofs.Tryz
namespace Go.Proofs.YtgfkglhelfkpoaaGreat
section
open Go.RowKit Plain
def aeV(ks:Es):Prop:=∀ (k n p c:Int) (b o B:Nat) (w:Iv),dF w B k n p c ks b o->B<=w.heap.size->ks.size<=1048576 ->
 I0 Tryz.prog 194 #[ptr b o] w λe w'=>e=If (I J ((ks.size+1:Nat):Int))/\Ix w.heap.size w w'
theorem JY:∀ (m:Nat) (ks:Es),ks.size<m->aeV ks:=by
 intro m
 induction m with
 | zero=>intro es h;omega
 | succ m ih=>
 intro ks hm k n p c b o B w hE hB hsz0;have IH:=aj ih;clear ih;obtain⟨lD,h0,h1,h2,h3,K,cap,b',o',h4,hc,hcm,hK,hks⟩:=hE;have gI:=aj hks;clear hks;have fF:cap<=9223372036854775807:=by unfold I2 at hcm;omega
 have hbw:b<w.heap.size:=ah;have hls:=Es.aF ks;go_enter func194,ntmps194;go_wp2
 go_loopw [3,4] (λll i wr=>∃ (j:Nat) (es':Es) (y:Nat),i=I J (j:Int)/\ll=I J (y:Int)/\j+es'.len=ks.len/\ak (y+es'.size=ks.size+1)/\y<=1048577/\ak (es'.size<=ks.size)/\ak (aI wr B es' b' (o'+j*5))/\ak (Ix w.heap.size w wr)) (λ_ i _=>ks.len - (intOf i).toNat)
 case atStart=>exact⟨0,ks,1,bE,bE,ah,by show _=_;omega,ah,Jn _,by show aI _ _ _ _ _;rw[Mn,Mm];exact gI.o,Jx _ _⟩
 case round=>
  obtain⟨j,es',y,rfl,rfl,hj,hy,y1,hsz,HE,HB⟩:=hrel;have h4':wr.cell? ⟨b,o+4,U⟩=M (V K ks.len cap):=(HB.o.cell (p:=⟨b,_,U⟩) hbw).trans h4;cases es' with
  | nil=>
   simp only[Es.len] at hj;go_wp2;go_ret;have:=hy.o;simp only[Es.size,Mm] at this;exact⟨bR (by rw[this]),HB.o⟩
  | cons kk n' p' c' aY r=>
   simp only[Es.len] at hj;have hK:=hK ah;subst hK;obtain⟨hel,hr⟩:=HE.o;have lH:=aj hel;have HR:=aj hr;have hrs:ak (r.size<=ks.size/\aY.size<ks.size/\y+(1+aY.size+r.size)=ks.size+1):=by
    have:=hsz.o;have h2:=hy.o;simp only[Es.size] at this h2;exact⟨ah,ah,ah⟩
   have hb2:y+(aY.size+1)<=1048577:=by have:=hrs.o;omega
   clear hel hr HE;go_wp2_with fail;refine (IH.o aY (by have:=hrs.o;omega) kk n' p' c' b' (o'+j*5) B wr lH.o (by have:=HB.o.size;omega) (by have:=hrs.o;omega)).mono ?_;rintro e w1 ⟨rfl,hb1⟩;have gY:ak (aI w1 B r b' (o'+(j+1)*5)):=by
    have:=HR.o.below (hb1.mono (by have:=HB.o.size;omega))
    rwa [show o'+j*5+5=o'+(j+1)*5 by omega] at this
   have HB1:=aj (aH HB.o hb1);obtain⟨z,hz⟩:=aD (aY.size+1)
   rw[<-hz] at hb2 ⊢;have HZ:ak (y+z+r.size=ks.size+1):=by have:=hrs.o;show _=_;omega
   clear hz hb1 HR lH;go_wp2
   go_roundw
   case rel=>exact⟨j+1,r,y+z,bE,bE,ah,HZ,ah,hrs.o.1,gY,HB1⟩
   case measure=>simp[intOf];omega
end
end Go.Proofs.YtgfkglhelfkpoaaGreat
namespace Go.Proofs.YtgfkglhelfkpoaaGreat
section
open Go.RowKit Plain
def fO(x:Nd)(c:Int)(w:Iv)(e:Ending)(w':Iv):Prop:=
 Ix w.heap.size w w'/\∃ K cap,e=If (.tuple #[exV x.k x.n x.p x.c K x.ks.len cap,I J c])/\x.ks.len<=cap/\cap<=I2/\jd w' w.heap.size w'.heap.size (b_ w.heap.size w'.heap.size x.ks K)
theorem b_.reg{w:Iv}{lo:Nat}{ks:Es}{K:Option I3}(h:b_ lo w.heap.size ks K w):jd w lo w.heap.size (b_ lo w.heap.size ks K):=
 ⟨h.le,Jn _,h,λ_ _ h hb=>h.keep hb⟩
end
end Go.Proofs.YtgfkglhelfkpoaaGreat
