/- Parts of the proof. -/
import Derived.Test.YtgfkglhelfkpoaaGreatRSA
import Derived.Deep.CutBlock
set_option maxRecDepth 100000
set_option maxHeartbeats 4000000
open Go.Proofs.Tryz
open Go.Value renaming int→I,slice→V
open Go.IntKind renaming i64→J
open Option renaming some→M,none→U
open Go.Ending renaming returned→If
open Go renaming World→Iv,Calls→I0
open Nat renaming le_refl→Jn,add_zero→Mm
namespace Go.Proofs.YtgfkglhelfkpoaaGreat
section
open Go.RowKit Plain xP
open Go.Sort (PermIn SortedIn SWO swp swp_permIn permIn_refl permIn_trans permIn_mono size_swp HoldsK grow)
section
variable {w0:Iv}{blk n' off:Nat}[Inhabited (kN w0 blk n')] {d0:Array (kN w0 blk n')}
theorem KO(H:qb off d0)(cap a m b:Nat)(az mz bz:Int)(ha:az=a)(hm:mz=m)(hb:bz=b)(d:Array (kN w0 blk n'))(w:Iv)(hds:d.size=d0.size)(S:jU w0 blk n' off d w)(ham:a<m)(hmb:m<b)(hbn:b<=d.size)(h1:SortedIn (ltOf iw) a m d)(h2:SortedIn (ltOf iw) m b d)(JQ:m=a+1) :
  I0 Tryz.prog 268 #[V (M ⟨blk,off,U⟩) d.size cap,I J az,I J mz,I J bz,.func (.func 178) #[] #[]] w λe w'=>e=If (.tuple #[])/\∃ d',jU w0 blk n' off d' w'/\PermIn a b d d'/\SortedIn (ltOf iw) a b d':=by
 subst ha hm hb;have mixed:Tryz.prog.follows .mixedOrders=true:=aL;have hsz:=H.sz;have C8:d.size<4611686018427387904:=ah;have S0:=aj S;have Ea:=aj hds;have H1:=aj h1;have H2:=aj h2;clear S hds h1 h2;have hq1:((m:Int) - (a:Int)==1)=true:=by simp;omega
 have aeO:=aj JQ;clear JQ;go_enter func268,ntmps268;go_wp2
 go_loopg [10,11] b (λkx Hy s11 wr=>∃ (i j:Nat),Hy=I J (i:Int)/\s11=I J (j:Int)/\m<=i/\i<=j/\j<=b/\j - i<=kx/\ak (jU w0 blk n' off d wr)/\ak (m<i->ltOf iw d[i - 1]! d[a]! = true)/\ak (j<b->ltOf iw d[j]! d[a]! = false))
 case atStart=>exact⟨m,b,rfl,rfl,ah,ah,ah,ah,S0,(λh=>ah),(λh=>ah)⟩
 case round=>
  clear S0;obtain⟨i,j,rfl,rfl,hmi,hij,hjb,hkx,S1,HL,HG⟩:=hrel
  by_cases hlt:i<j
  ·have hltz:(i:Int)<(j:Int):=ah
   obtain⟨h,hh⟩:∃ h:Nat,h=(i+j) / 2:=⟨_,rfl⟩
   have hme:((i:Int)+(j:Int)) / 2=(h:Int):=ah;have GH:i<=h:=ah;have hj1:h<j:=ah;clear hh;cases hL:ltOf iw d[h]! d[a]! with
   | true=>
    have ea1:((h:Int)).toNat=h:=ah;have pa1:(0:Int)<=(h:Int):=ah;have ba1:(h:Int)<(d.size:Int):=ah;have ra1:IntKind.i64.wrap ((h:Int))=(h:Int):=by rw[IntKind.wrap_i64];omega
    have ec1:((a:Int)).toNat=a:=ah;have pc1:(0:Int)<=(a:Int):=ah;have bc1:(a:Int)<(d.size:Int):=ah;have rc1:IntKind.i64.wrap ((a:Int))=(a:Int):=by rw[IntKind.wrap_i64];omega
    obtain⟨A1,A1',c1,c1',v1,v1',z1,X1,hz1⟩:=KY H S1.o (by have:=Ea.o;omega) (h) (a) ah ah;have Ie:=X1.a0;have Ig:=X1.a1;have Ih:=X1.b0;have Ii:=X1.b1;have xc1:=X1.call;have hv1:z1<0:=by rw[hz1];exact of_decide_eq_true hL
    have hd1:decide (z1<0)=true:=decide_eq_true hv1;clear hz1 X1;go_wp2_with fail
    go_quiet_grown (first | (go_at_call 178;refine Calls.grown_of (xc1 _ _)))
    have S2:ak (jU w0 blk n' off d (grow (wr.drewN nq) osq)):=S1.o.grown nq osq;clear Ie Ig Ih Ii xc1 S1;generalize grow (wr.drewN nq) osq=w2 at S2 ⊢;clear nq osq;have HL2:ak (m<h+1->ltOf iw d[h+1 - 1]! d[a]! = true):=λ_=>hL
    go_wp2
    go_roundg (j - (h+1))
    case measure=>omega
    case rel=>exact⟨h+1,j,by first | rfl | go_num,rfl,ah,ah,hjb,ah,S2,HL2,HG⟩
   | false=>
    have ea2:((h:Int)).toNat=h:=ah;have pa2:(0:Int)<=(h:Int):=ah;have ba2:(h:Int)<(d.size:Int):=ah;have ra2:IntKind.i64.wrap ((h:Int))=(h:Int):=by rw[IntKind.wrap_i64];omega
    have ec2:((a:Int)).toNat=a:=ah;have pc2:(0:Int)<=(a:Int):=ah;have bc2:(a:Int)<(d.size:Int):=ah;have rc2:IntKind.i64.wrap ((a:Int))=(a:Int):=by rw[IntKind.wrap_i64];omega
    obtain⟨A2,A2',c2,c2',v2,v2',z2,X2,hz2⟩:=KY H S1.o (by have:=Ea.o;omega) (h) (a) ah ah;have OW:=X2.a0;have OX:=X2.a1;have OY:=X2.b0;have OZ:=X2.b1;have xc2:=X2.call;have hv2:¬ z2<0:=by rw[hz2];exact of_decide_eq_false hL
    have hd2:decide (z2<0)=false:=decide_eq_false hv2;clear hz2 X2;go_wp2_with fail
    go_quiet_grown (first | (go_at_call 178;refine Calls.grown_of (xc2 _ _)))
    have S2:ak (jU w0 blk n' off d (grow (wr.drewN nq) osq)):=S1.o.grown nq osq;clear OW OX OY OZ xc2 S1;generalize grow (wr.drewN nq) osq=w2 at S2 ⊢;clear nq osq;have pz:ak (h<b->ltOf iw d[h]! d[a]! = false):=λ_=>hL
    go_wp2
    go_roundg (h - i)
    case measure=>omega
    case rel=>exact⟨i,h,rfl,rfl,hmi,ah,ah,ah,S2,HL,pz⟩
  ·obtain rfl:i=j:=ah
   have JQ:=aeO.o;have hwp:IntKind.i64.wrap ((i:Int) - 1)=(i:Int) - 1:=by rw[IntKind.wrap_i64];omega
   have HPR:ak (PermIn a b d d):=permIn_refl _ _ _;have hai:a<i:=ah;have D7:ak (a+1<i->ltOf iw d[i - 1]! d[a]! = true):=λh=>HL.o ah
   have hm2:ak (SortedIn (ltOf iw) (a+1) b d):=by have:=H2.o;rw[JQ] at this;exact this
   clear JQ;go_wp2
   go_loopg [13] (i - 1 - a) (λkx s13 wr=>∃ (k:Nat) (dk:Array (kN w0 blk n')),s13=I J (k:Int)/\a<=k/\k<=i - 1/\i - 1 - k<=kx/\dk.size=d.size/\ak (jU w0 blk n' off dk wr)/\ak (PermIn a b d dk)/\ak (∀ t,dk[t]! = gP (λt=>d[t]!) a (a+1) (k+1) t))
   case atStart=>exact⟨a,d,rfl,ah,ah,ah,rfl,S1,HPR,by show ∀ t,_;rw[Dw];intro t;rfl⟩
   case round=>
    clear S1;obtain⟨k,dk,rfl,hak,hki,hkx,hdk,S1,HP,HF⟩:=hrel
    by_cases hlt:k<i - 1
    ·have hltz:(k:Int)<(i:Int) - 1:=ah
     go_wp2_with fail;have ea3:((k:Int)).toNat=k:=ah;have pa3:(0:Int)<=(k:Int):=ah;have ba3:(k:Int)<(d.size:Int):=ah;have ra3:IntKind.i64.wrap ((k:Int))=(k:Int):=by rw[IntKind.wrap_i64];omega
     have ec3:((k:Int)+1).toNat=k+1:=ah;have pc3:(0:Int)<=(k:Int)+1:=ah;have bc3:(k:Int)+1<(d.size:Int):=ah;have rc3:IntKind.i64.wrap ((k:Int)+1)=(k:Int)+1:=by rw[IntKind.wrap_i64];omega
     obtain⟨A3,A3',c3,c3',v3,v3',X3⟩:=acb H S1.o (by have:=Ea.o;omega) (k) (k+1) ah ah ah;have aao:=X3.a0;have aap:=X3.a1;have aaq:=X3.b0;have aar:=X3.b1;have aas:=(X3.fr 0 ah).1;have af6:=(X3.fr 1 ah).1;have aat:=(X3.fr 0 ah).2;have af7:=(X3.fr 1 ah).2;rw[Mm] at aas aat;have af8:=X3.s1;have af9:=X3.s2;have aga:=X3.s3;have S2:=aj X3.sw;clear S1 X3;go_wp2_with fail
     go_region
     clear aao aap aaq aar aas af6 aat af7 af8 af9 aga;generalize ((((wr.setCell ⟨blk,off+(k)*2,U⟩ (V A3' n' c3')).setCell ⟨blk,off+(k)*2+1,U⟩ (I J v3')).setCell ⟨blk,off+(k+1)*2,U⟩ (V A3 n' c3)).setCell ⟨blk,off+(k+1)*2+1,U⟩ (I J v3)).drew=w2 at S2 ⊢;have mU:ak (PermIn a b d (swp dk k (k+1))):=permIn_trans _ _ _ _ _ HP.o (swp_permIn _ _ _ _ _ ah ah ah ah ah)
     have LJ:ak (∀ t,(swp dk k (k+1))[t]! = gP (λt=>d[t]!) a (a+1) (k+2) t):=ab0 ah ah hdk HF.o;go_wp2
     go_roundg (i - 1 - (k+1))
     case measure=>omega
     case rel=>exact⟨k+1,swp dk k (k+1),by first | rfl | go_num,ah,ah,ah,by rw[size_swp];exact hdk,S2,mU,LJ⟩
    ·have hltz:¬ (k:Int)<(i:Int) - 1:=ah
     have HE:ak (SortedIn (ltOf iw) a b dk):=by
      have e:k+1=i:=ah;have hf:=HF.o;rw[e] at hf;exact Oe aae hai hjb hm2.o D7.o HG.o hf
     go_wp2
     first | go_end0 | (refine bodyPost_ret (v:=.tuple #[]) (by simp[results,results268,go_sem]) rfl ?_)
     exact⟨rfl,dk,S1.o,HP.o,HE.o⟩
end
end
section
open Go.RowKit Plain xP
open Go.Sort (PermIn SortedIn SWO swp swp_permIn permIn_refl permIn_trans permIn_mono size_swp HoldsK grow)
section
variable {w0:Iv}{blk n' off:Nat}[Inhabited (kN w0 blk n')] {d0:Array (kN w0 blk n')}
theorem KP(H:qb off d0)(cap a m b:Nat)(az mz bz:Int)(ha:az=a)(hm:mz=m)(hb:bz=b)(d:Array (kN w0 blk n'))(w:Iv)(hds:d.size=d0.size)(S:jU w0 blk n' off d w)(_ham:a<m)(hmb:m<b)(hbn:b<=d.size)(h1:SortedIn (ltOf iw) a m d)(h2:SortedIn (ltOf iw) m b d)(JQ:b=m+1)(hno:a+1<m) :
  I0 Tryz.prog 268 #[V (M ⟨blk,off,U⟩) d.size cap,I J az,I J mz,I J bz,.func (.func 178) #[] #[]] w λe w'=>e=If (.tuple #[])/\∃ d',jU w0 blk n' off d' w'/\PermIn a b d d'/\SortedIn (ltOf iw) a b d':=by
 subst ha hm hb;have mixed:Tryz.prog.follows .mixedOrders=true:=aL;have hsz:=H.sz;have C8:d.size<4611686018427387904:=ah;have S0:=aj S;have Ea:=aj hds;have H1:=aj h1;have H2:=aj h2;clear S hds h1 h2;have hq1:((m:Int) - (a:Int)==1)=false:=by simp;omega
 have hq2:((b:Int) - (m:Int)==1)=true:=by simp;omega
 have aeO:=aj JQ;clear JQ;go_enter func268,ntmps268;go_wp2
 go_loopg [14,15] m (λkx s14 s15 wr=>∃ (i j:Nat),s14=I J (i:Int)/\s15=I J (j:Int)/\a<=i/\i<=j/\j<=m/\j - i<=kx/\ak (jU w0 blk n' off d wr)/\ak (a<i->ltOf iw d[m]! d[i - 1]! = false)/\ak (j<m->ltOf iw d[m]! d[j]! = true))
 case atStart=>exact⟨a,m,rfl,rfl,ah,ah,ah,ah,S0,(λh=>ah),(λh=>ah)⟩
 case round=>
  clear S0;obtain⟨i,j,rfl,rfl,hai,hij,hjm,hkx,S1,HL,HG⟩:=hrel
  by_cases hlt:i<j
  ·have hltz:(i:Int)<(j:Int):=ah
   obtain⟨h,hh⟩:∃ h:Nat,h=(i+j) / 2:=⟨_,rfl⟩
   have hme:((i:Int)+(j:Int)) / 2=(h:Int):=ah;have GH:i<=h:=ah;have hj1:h<j:=ah;clear hh;cases hL:ltOf iw d[m]! d[h]! with
   | false=>
    have ea1:((m:Int)).toNat=m:=ah;have pa1:(0:Int)<=(m:Int):=ah;have ba1:(m:Int)<(d.size:Int):=ah;have ra1:IntKind.i64.wrap ((m:Int))=(m:Int):=by rw[IntKind.wrap_i64];omega
    have ec1:((h:Int)).toNat=h:=ah;have pc1:(0:Int)<=(h:Int):=ah;have bc1:(h:Int)<(d.size:Int):=ah;have rc1:IntKind.i64.wrap ((h:Int))=(h:Int):=by rw[IntKind.wrap_i64];omega
    obtain⟨A1,A1',c1,c1',v1,v1',z1,X1,hz1⟩:=KY H S1.o (by have:=Ea.o;omega) (m) (h) ah ah;have Ie:=X1.a0;have Ig:=X1.a1;have Ih:=X1.b0;have Ii:=X1.b1;have xc1:=X1.call;have hv1:¬ z1<0:=by rw[hz1];exact of_decide_eq_false hL
    have hd1:decide (z1<0)=false:=decide_eq_false hv1;clear hz1 X1;go_wp2_with fail
    go_quiet_grown (first | (go_at_call 178;refine Calls.grown_of (xc1 _ _)))
    have S2:ak (jU w0 blk n' off d (grow (wr.drewN nq) osq)):=S1.o.grown nq osq;clear Ie Ig Ih Ii xc1 S1;generalize grow (wr.drewN nq) osq=w2 at S2 ⊢;clear nq osq;have HL2:ak (a<h+1->ltOf iw d[m]! d[h+1 - 1]! = false):=λ_=>hL
    go_wp2
    go_roundg (j - (h+1))
    case measure=>omega
    case rel=>exact⟨h+1,j,by first | rfl | go_num,rfl,ah,ah,hjm,ah,S2,HL2,HG⟩
   | true=>
    have ea2:((m:Int)).toNat=m:=ah;have pa2:(0:Int)<=(m:Int):=ah;have ba2:(m:Int)<(d.size:Int):=ah;have ra2:IntKind.i64.wrap ((m:Int))=(m:Int):=by rw[IntKind.wrap_i64];omega
    have ec2:((h:Int)).toNat=h:=ah;have pc2:(0:Int)<=(h:Int):=ah;have bc2:(h:Int)<(d.size:Int):=ah;have rc2:IntKind.i64.wrap ((h:Int))=(h:Int):=by rw[IntKind.wrap_i64];omega
    obtain⟨A2,A2',c2,c2',v2,v2',z2,X2,hz2⟩:=KY H S1.o (by have:=Ea.o;omega) (m) (h) ah ah;have OW:=X2.a0;have OX:=X2.a1;have OY:=X2.b0;have OZ:=X2.b1;have xc2:=X2.call;have hv2:z2<0:=by rw[hz2];exact of_decide_eq_true hL
    have hd2:decide (z2<0)=true:=decide_eq_true hv2;clear hz2 X2;go_wp2_with fail
    go_quiet_grown (first | (go_at_call 178;refine Calls.grown_of (xc2 _ _)))
    have S2:ak (jU w0 blk n' off d (grow (wr.drewN nq) osq)):=S1.o.grown nq osq;clear OW OX OY OZ xc2 S1;generalize grow (wr.drewN nq) osq=w2 at S2 ⊢;clear nq osq;have pz:ak (h<m->ltOf iw d[m]! d[h]! = true):=λ_=>hL
    go_wp2
    go_roundg (h - i)
    case measure=>omega
    case rel=>exact⟨i,h,rfl,rfl,hai,ah,ah,ah,S2,HL,pz⟩
  ·obtain rfl:i=j:=ah
   have HPR:ak (PermIn a b d d):=permIn_refl _ _ _;go_wp2
   go_loopg [17] (m - i) (λkx s17 wr=>∃ (k:Nat) (dk:Array (kN w0 blk n')),s17=I J (k:Int)/\i<=k/\k<=m/\k - i<=kx/\dk.size=d.size/\ak (jU w0 blk n' off dk wr)/\ak (PermIn a b d dk)/\ak (∀ t,dk[t]! = gP (λt=>d[t]!) k m (m+1) t))
   case atStart=>exact⟨m,d,rfl,ah,ah,ah,rfl,S1,HPR,by show ∀ t,_;rw[FK];intro t;rfl⟩
   case round=>
    clear S1;obtain⟨k,dk,rfl,hak,hki,hkx,hdk,S1,HP,HF⟩:=hrel
    by_cases hlt:i<k
    ·obtain⟨kp,rfl⟩:∃ kp,k=kp+1:=⟨k - 1,ah⟩
     have hltz:(i:Int)<(kp:Int)+1:=ah;have hwp:IntKind.i64.wrap (kp:Int)=(kp:Int):=by rw[IntKind.wrap_i64];omega
     go_wp2_with fail;have ea3:((kp:Int)+1).toNat=kp+1:=ah;have pa3:(0:Int)<=(kp:Int)+1:=ah;have ba3:(kp:Int)+1<(d.size:Int):=ah;have ra3:IntKind.i64.wrap ((kp:Int)+1)=(kp:Int)+1:=by rw[IntKind.wrap_i64];omega
     have ec3:((kp:Int)).toNat=kp:=ah;have pc3:(0:Int)<=(kp:Int):=ah;have bc3:(kp:Int)<(d.size:Int):=ah;have rc3:IntKind.i64.wrap ((kp:Int))=(kp:Int):=by rw[IntKind.wrap_i64];omega
     obtain⟨A3,A3',c3,c3',v3,v3',X3⟩:=acb H S1.o (by have:=Ea.o;omega) (kp+1) (kp) ah ah ah;have aao:=X3.a0;have aap:=X3.a1;have aaq:=X3.b0;have aar:=X3.b1;have aas:=(X3.fr 0 ah).1;have af6:=(X3.fr 1 ah).1;have aat:=(X3.fr 0 ah).2;have af7:=(X3.fr 1 ah).2;rw[Mm] at aas aat;have af8:=X3.s1;have af9:=X3.s2;have aga:=X3.s3;have S2:=aj X3.sw;clear S1 X3;go_wp2_with fail
     go_region
     clear aao aap aaq aar aas af6 aat af7 af8 af9 aga;generalize ((((wr.setCell ⟨blk,off+(kp+1)*2,U⟩ (V A3' n' c3')).setCell ⟨blk,off+(kp+1)*2+1,U⟩ (I J v3')).setCell ⟨blk,off+(kp)*2,U⟩ (V A3 n' c3)).setCell ⟨blk,off+(kp)*2+1,U⟩ (I J v3)).drew=w2 at S2 ⊢;have mU:ak (PermIn a b d (swp dk (kp+1) kp)):=permIn_trans _ _ _ _ _ HP.o (swp_permIn _ _ _ _ _ ah ah ah ah ah)
     have LJ:ak (∀ t,(swp dk (kp+1) kp)[t]! = gP (λt=>d[t]!) kp m (m+1) t):=by
      have h:=SB (m:=m) (k:=kp+1) ah ah (by omega:m<d.size) hdk HF.o;simp only[Nat.add_sub_cancel] at h;exact h
     go_wp2
     go_roundg (kp - i)
     case measure=>omega
     case rel=>exact⟨kp,swp dk (kp+1) kp,by first | rfl | go_num | (congr 1;omega),ah,ah,ah,by rw[size_swp];exact hdk,S2,mU,LJ⟩
    ·have hltz:¬ (i:Int)<(k:Int):=ah
     have HE:ak (SortedIn (ltOf iw) a b dk):=by
      have e:k=i:=ah;have hf:=HF.o;rw[e] at hf;have h:=merge_right aae hai hjm H1.o HL.o HG.o hf;have:=aeO.o;rw[this];exact h
     go_wp2
     first | go_end0 | (refine bodyPost_ret (v:=.tuple #[]) (by simp[results,results268,go_sem]) rfl ?_)
     exact⟨rfl,dk,S1.o,HP.o,HE.o⟩
end
end
end Go.Proofs.YtgfkglhelfkpoaaGreat
open Go.Proofs.Tryz
namespace Go.Proofs.YtgfkglhelfkpoaaGreat
section
open Go.RowKit Plain xP
open Go.Sort (PermIn SortedIn SWO swp swp_permIn permIn_refl permIn_trans permIn_mono size_swp HoldsK grow)
section
variable {w0:Iv}{blk n' off:Nat}[Inhabited (kN w0 blk n')] {d0:Array (kN w0 blk n')}
def Pv{w0:Iv}{blk n':Nat}[Inhabited (kN w0 blk n')](off:Nat)(d0:Array (kN w0 blk n'))(cap N:Nat):Prop:=
 ∀ (a m b:Nat) (az mz bz:Int) (d:Array (kN w0 blk n')) (w:Iv),az=a->mz=m->bz=b->d.size=d0.size->jU w0 blk n' off d w->a<m->m<b->b<=d.size->b - a<=N->SortedIn (ltOf iw) a m d->SortedIn (ltOf iw) m b d ->
  I0 Tryz.prog 268 #[V (M ⟨blk,off,U⟩) d0.size cap,I J az,I J mz,I J bz,.func (.func 178) #[] #[]] w λe w'=>e=If (.tuple #[])/\∃ d',jU w0 blk n' off d' w'/\PermIn a b d d'/\SortedIn (ltOf iw) a b d'
theorem OL(H:qb off d0)(cap a m b:Nat)(az mz bz:Int)(ha:az=a)(hm:mz=m)(hb:bz=b)(d:Array (kN w0 blk n'))(w:Iv)(hds:d.size=d0.size)(S:jU w0 blk n' off d w)(_ham:a<m)(_hmb:m<b)(hbn:b<=d.size)(h1:SortedIn (ltOf iw) a m d)(h2:SortedIn (ltOf iw) m b d)(hg1:a+1<m)(hg2:m+1<b)(N:Nat)(hN:b - a<=N+1)(aic:Pv off d0 cap N) :
  I0 Tryz.prog 268 #[V (M ⟨blk,off,U⟩) d.size cap,I J az,I J mz,I J bz,.func (.func 178) #[] #[]] w λe w'=>e=If (.tuple #[])/\∃ d',jU w0 blk n' off d' w'/\PermIn a b d d'/\SortedIn (ltOf iw) a b d':=by
 subst ha hm hb;have mixed:Tryz.prog.follows .mixedOrders=true:=aL;have hsz:=H.sz;have C8:d.size<4611686018427387904:=ah;have S0:=aj S;have Ea:=aj hds;have H1:=aj h1;have H2:=aj h2;clear S hds h1 h2;have hq1:((m:Int) - (a:Int)==1)=false:=by simp;omega
 have hq2:((b:Int) - (m:Int)==1)=false:=by simp;omega
 obtain⟨mid,CY⟩:∃ mid:Nat,mid=(a+b) / 2:=⟨_,rfl⟩
 have hme:((a:Int)+(b:Int)) / 2=(mid:Int):=ah;have amD:2*mid<=a+b:=ah;have amE:a+b<=2*mid+1:=ah;have agF:=aj aic;have agH:ak (∀ (x y z:Nat) (xz yz zz:Int) (wr:Iv),xz=x->yz=y->zz=z->jU w0 blk n' off d wr->x<y->y<z->z<=d.size ->
   I0 Tryz.prog 282 #[V (M ⟨blk,off,U⟩) d.size cap,I J xz,I J yz,I J zz,.func (.func 178) #[] #[]] wr λe w'=>e=If (.tuple #[])/\∃ d',jU w0 blk n' off d' w'/\PermIn x z d d'/\∀ t,d'[t]! = gP (λt=>d[t]!) x y z t):=
  λx y z xz yz zz wr hx hy hz hS h1 h2 h3=>OD H cap x y z xz yz zz hx hy hz d wr (Ea.o) hS h1 h2 h3
 clear CY aic;go_enter func268,ntmps268;go_upto_if 140 with fail
 go_cut [20,21] (λs20 s21 wc=>∃ lo hi:Nat,s20=I J (lo:Int)/\s21=I J (hi:Int)/\a<=lo/\lo<=hi/\hi<=m/\hi<=mid/\mid+m<=b+lo/\ak (lo=a∨mid+m=b+lo)/\ak (hi=m∨hi=mid)/\w=wc)
 case first=>
  by_cases hmm:mid<m
  ·have hmz:(mid:Int)<(m:Int):=ah
   go_wp2_with fail;go_meet
   case rel=>exact⟨mid+m - b,mid,by first | rfl | go_num | (congr 1;omega),rfl,ah,ah,ah,ah,ah,.inr ah,.inr rfl,rfl⟩
  ·have hmz:¬ (mid:Int)<(m:Int):=ah
   go_wp2_with fail;go_meet
   case rel=>exact⟨a,m,rfl,rfl,ah,ah,ah,ah,ah,.inl rfl,.inl rfl,rfl⟩
 case rest=>
 obtain⟨lo,hi,rfl,rfl,hlo,hlh,hhm,alN,hend,HLO,HHI,rfl⟩:=hcut;have hwn:IntKind.i64.wrap ((mid:Int)+(m:Int) - 1)=(mid:Int)+(m:Int) - 1:=by rw[IntKind.wrap_i64];omega
 go_wp2
 go_loopg [20,21] hi (λkx s20 s21 wr=>∃ (s r:Nat),s20=I J (s:Int)/\s21=I J (r:Int)/\lo<=s/\s<=r/\r<=hi/\r - s<=kx/\ak (jU w0 blk n' off d wr)/\ak (lo<s->ltOf iw d[mid+m - s]! d[s - 1]! = false)/\ak (r<hi->ltOf iw d[mid+m - 1 - r]! d[r]! = true))
 case atStart=>exact⟨lo,hi,rfl,rfl,ah,ah,ah,ah,S0,(λh=>ah),(λh=>ah)⟩
 case round=>
  clear S0;obtain⟨s,r,rfl,rfl,hls,yU,hrh,hkx,S1,HL,HG⟩:=hrel
  by_cases hlt:s<r
  ·as_aux_lemma=>
   have hltz:(s:Int)<(r:Int):=ah;obtain⟨c,hh⟩:∃ h:Nat,h=(s+r) / 2:=⟨_,rfl⟩
   have hce:((s:Int)+(r:Int)) / 2=(c:Int):=ah;have GH:s<=c:=ah;have hj1:c<r:=ah;obtain⟨p,hp⟩:∃ p:Nat,p=mid+m - 1 - c:=⟨_,rfl⟩
   have hpe:(mid:Int)+(m:Int) - 1 - (c:Int)=(p:Int):=ah;have hpd:p<d.size:=ah;have HPP:=aj hp;clear hh hp;cases hL:ltOf iw d[p]! d[c]! with
   | false=>
    have ea1:((p:Int)).toNat=p:=ah;have pa1:(0:Int)<=(p:Int):=ah;have ba1:(p:Int)<(d.size:Int):=ah;have ra1:IntKind.i64.wrap ((p:Int))=(p:Int):=by rw[IntKind.wrap_i64];omega
    have ec1:((c:Int)).toNat=c:=ah;have pc1:(0:Int)<=(c:Int):=ah;have bc1:(c:Int)<(d.size:Int):=ah;have rc1:IntKind.i64.wrap ((c:Int))=(c:Int):=by rw[IntKind.wrap_i64];omega
    obtain⟨A1,A1',c1,c1',v1,v1',z1,X1,hz1⟩:=KY H S1.o (by have:=Ea.o;omega) (p) (c) ah ah;have Ie:=X1.a0;have Ig:=X1.a1;have Ih:=X1.b0;have Ii:=X1.b1;have xc1:=X1.call;have hv1:¬ z1<0:=by rw[hz1];exact of_decide_eq_false hL
    have hd1:decide (z1<0)=false:=decide_eq_false hv1;clear hz1 X1;go_wp2_with fail
    go_quiet_grown (first | (go_at_call 178;refine Calls.grown_of (xc1 _ _)))
    have S2:ak (jU w0 blk n' off d (grow (wr.drewN nq) osq)):=S1.o.grown nq osq;clear Ie Ig Ih Ii xc1 S1;generalize grow (wr.drewN nq) osq=w2 at S2 ⊢;clear nq osq;have HL2:ak (lo<c+1->ltOf iw d[mid+m - (c+1)]! d[c+1 - 1]! = false):=λ_=>by rw[Nat.add_sub_cancel,show mid+m - (c+1)=p by have:=HPP.o;omega];exact hL
    go_wp2
    go_roundg (r - (c+1))
    case measure=>omega
    case rel=>exact⟨c+1,r,by first | rfl | go_num,rfl,ah,ah,hrh,ah,S2,HL2,HG⟩
   | true=>
    have ea2:((p:Int)).toNat=p:=ah;have pa2:(0:Int)<=(p:Int):=ah;have ba2:(p:Int)<(d.size:Int):=ah;have ra2:IntKind.i64.wrap ((p:Int))=(p:Int):=by rw[IntKind.wrap_i64];omega
    have ec2:((c:Int)).toNat=c:=ah;have pc2:(0:Int)<=(c:Int):=ah;have bc2:(c:Int)<(d.size:Int):=ah;have rc2:IntKind.i64.wrap ((c:Int))=(c:Int):=by rw[IntKind.wrap_i64];omega
    obtain⟨A2,A2',c2,c2',v2,v2',z2,X2,hz2⟩:=KY H S1.o (by have:=Ea.o;omega) (p) (c) ah ah;have OW:=X2.a0;have OX:=X2.a1;have OY:=X2.b0;have OZ:=X2.b1;have xc2:=X2.call;have hv2:z2<0:=by rw[hz2];exact of_decide_eq_true hL
    have hd2:decide (z2<0)=true:=decide_eq_true hv2;clear hz2 X2;go_wp2_with fail
    go_quiet_grown (first | (go_at_call 178;refine Calls.grown_of (xc2 _ _)))
    have S2:ak (jU w0 blk n' off d (grow (wr.drewN nq) osq)):=S1.o.grown nq osq;clear OW OX OY OZ xc2 S1;generalize grow (wr.drewN nq) osq=w2 at S2 ⊢;clear nq osq;have pz:ak (c<hi->ltOf iw d[mid+m - 1 - c]! d[c]! = true):=λ_=>by rw[<-HPP.o];exact hL
    go_wp2
    go_roundg (c - s)
    case measure=>omega
    case rel=>exact⟨s,c,rfl,rfl,hls,ah,ah,ah,S2,HL,pz⟩
  ·as_aux_lemma=>
   obtain rfl:s=r:=ah;obtain⟨e,he⟩:∃ e:Nat,e=mid+m - s:=⟨_,rfl⟩
   have hee:(mid:Int)+(m:Int) - (s:Int)=(e:Int):=ah;have hes:e+s=mid+m:=ah;have ak1:m<=e:=ah;have CX:e<=b:=ah;have alO:mid<=e:=ah;have hem:s+(e - m)=mid:=ah;have Pn:ak (a<s->e<b->ltOf iw d[e]! d[s - 1]! = false):=λq1 q2=>by
    have h:=HL.o (by rcases HLO.o with h | h<;>omega);rw[he];exact h
   have IY:ak (m<e->s<m->ltOf iw d[s]! d[e - 1]! = false):=λq1 q2=>by
    have h:=HG.o (by rcases HHI.o with h | h<;>omega);have e2:e - 1=mid+m - 1 - s:=ah;rw[e2];exact le_of_lt aae h
   have ajn:=aj hem;have HES:=aj hes;clear he hes hem HL HG;have amM:s<=mid:=ah;have hsm:s<=m:=ah;have has:a<=s:=ah;go_upto_region 39 with fail
   go_cut [185] (λc wx=>c=.bool (decide (s<m/\m<e))/\wr=wx)
   case first=>
    by_cases hs1:s<m
    ·have Y9:(s:Int)<(m:Int):=ah
     by_cases hs2:m<e
     ·have Za:(m:Int)<(e:Int):=ah
      go_wp2_with fail;go_meet
      case rel=>exact⟨by simp[hs1,hs2],rfl⟩
     ·have Za:¬ (m:Int)<(e:Int):=ah
      go_wp2_with fail;go_meet
      case rel=>exact⟨by simp[hs2],rfl⟩
    ·have Y9:¬ (s:Int)<(m:Int):=ah
     have Y8:decide ((s:Int)<(m:Int))=false:=by simp;omega
     go_wp2_with fail;go_meet
     case rel=>exact⟨by simp[hs1],rfl⟩
   case rest=>
   obtain⟨rfl,rfl⟩:=hcut;go_upto_if 185 with fail
   go_cut [] (λwc=>∃ d1:Array (kN w0 blk n'),ak (jU w0 blk n' off d1 wc)/\ak (d1.size=d.size)/\ak (PermIn a b d d1)/\ak (∀ t,d1[t]! = gP (λt=>d[t]!) s m e t))
   case first=>
    by_cases hs1:s<m
    ·by_cases hs2:m<e
     ·have Y_:decide (s<m/\m<e)=true:=by simp[hs1,hs2]
      go_wp2_with fail;refine (agH.o s m e _ _ _ _ rfl rfl rfl S1.o hs1 hs2 ah).mono ?_;rintro e' w2 ⟨rfl,d1,hS,hP,hF⟩;go_wp2_with fail;go_meet
      case rel=>exact⟨d1,hS,hP.1,permIn_mono _ _ s e _ _ ah ah ah hP,hF⟩
     ·have Y_:decide (s<m/\m<e)=false:=by simp[hs2]
      have HPR:ak (PermIn a b d d):=permIn_refl _ _ _;go_wp2_with fail;go_meet
      case rel=>exact⟨d,S1,rfl,HPR,by show ∀ t,_;rw[show e=m by omega,Dw];intro t;rfl⟩
    ·have Y8:decide (s<m/\m<e)=false:=by simp[hs1]
     have HPR:ak (PermIn a b d d):=permIn_refl _ _ _;go_wp2_with fail;go_meet
     case rel=>exact⟨d,S1,rfl,HPR,by show ∀ t,_;rw[show s=m by omega,FK];intro t;rfl⟩
   case rest=>
   as_aux_lemma=>
   obtain⟨d1,S2,HD1,HP1,HF1⟩:=hcut;obtain⟨w1,rfl⟩:=aD wc
   have HM:=aj (GZ aae has hsm ak1 CX H1.o H2.o Pn.o IY.o HF1.o);rw[ajn.o] at HM;clear S1 Pn IY agH HF1;go_upto_region 41 with fail
   go_cut [199] (λc wx=>c=.bool (decide (a<s/\s<mid))/\w1=wx)
   case first=>
    by_cases hs1:a<s
    ·have Y9:(a:Int)<(s:Int):=ah
     by_cases hs2:s<mid
     ·have Za:(s:Int)<(mid:Int):=ah
      go_wp2_with fail;go_meet
      case rel=>exact⟨by simp[hs1,hs2],rfl⟩
     ·have Za:¬ (s:Int)<(mid:Int):=ah
      go_wp2_with fail;go_meet
      case rel=>exact⟨by simp[hs2],rfl⟩
    ·have Y9:¬ (a:Int)<(s:Int):=ah
     have Y8:decide ((a:Int)<(s:Int))=false:=by simp;omega
     go_wp2_with fail;go_meet
     case rel=>exact⟨by simp[hs1],rfl⟩
   case rest=>
   obtain⟨rfl,rfl⟩:=hcut;go_upto_if 199 with fail
   go_cut [] (λwc=>∃ d2:Array (kN w0 blk n'),ak (jU w0 blk n' off d2 wc)/\ak (PermIn a mid d1 d2)/\ak (SortedIn (ltOf iw) a mid d2))
   case first=>
    have HPR:ak (PermIn a mid d1 d1):=permIn_refl _ _ _
    by_cases hs1:a<s
    ·by_cases hs2:s<mid
     ·have Y_:decide (a<s/\s<mid)=true:=by simp[hs1,hs2]
      have HC:=aj (agF.o a s mid _ _ _ d1 _ rfl rfl rfl (HD1.o.trans Ea.o) S2.o hs1 hs2 (by rw[HD1.o];omega) ah HM.o.1 HM.o.2.1);rw[<-Ea.o] at HC;go_wp2_with fail;refine HC.o.mono ?_;rintro e' w2 ⟨rfl,d2,hS,hP,hSo⟩;go_wp2_with fail;go_meet
      case rel=>exact⟨d2,hS,hP,hSo⟩
     ·have Y_:decide (a<s/\s<mid)=false:=by simp[hs2]
      have HSo:ak (SortedIn (ltOf iw) a mid d1):=by have:=HM.o.1;rw[show s=mid by omega] at this;exact this
      go_wp2_with fail;go_meet
      case rel=>exact⟨d1,S2,HPR,HSo⟩
    ·have Y8:decide (a<s/\s<mid)=false:=by simp[hs1]
     have HSo:ak (SortedIn (ltOf iw) a mid d1):=by have:=HM.o.2.1;rw[show s=a by omega] at this;exact this
     go_wp2_with fail;go_meet
     case rel=>exact⟨d1,S2,HPR,HSo⟩
   case rest=>
   as_aux_lemma=>
   obtain⟨d2,S3,mU,HS2⟩:=hcut;have HD2:ak (d2.size=d.size):=mU.o.1.trans HD1.o;have hk2:ak (∀ i,mid<=i->d2[i]! = d1[i]!):=λi hi=>mU.o.2.1 i (Or.inr hi)
   have HM3:ak (SortedIn (ltOf iw) mid e d2):=jC HM.o.2.2.1 λi hi _=>hk2.o i hi
   have HM4:ak (SortedIn (ltOf iw) e b d2):=jC HM.o.2.2.2.1 λi hi _=>hk2.o i ah
   have aay:ak (∀ d3:Array (kN w0 blk n'),PermIn mid b d2 d3->SortedIn (ltOf iw) mid b d3->PermIn a b d d3/\SortedIn (ltOf iw) a b d3):=λd3 hP3 mP=>by
    have hb1:b<=d1.size:=by rw[HD1.o];exact hbn
    have hb2:b<=d2.size:=by rw[HD2.o];exact hbn
    refine⟨permIn_trans _ _ _ _ _ HP1.o (permIn_trans _ _ _ _ _ (permIn_mono _ _ a mid a b (Jn _) ah hb1 mU.o) (permIn_mono _ _ mid b a b ah (Jn _) hb2 hP3)), ?_⟩;have hX:=M9 hb1 ah ah HM.o.2.2.2.2 mU.o hP3;exact KI (jC HS2.o λi _ hi=>hP3.2.1 i (Or.inl hi)) mP hX
   clear S2 HM HP1 mU HS2 hk2
   by_cases hs1:mid<e
   ·have Y9:(mid:Int)<(e:Int):=ah
    by_cases hs2:e<b
    ·have Za:(e:Int)<(b:Int):=ah
     have Y_:decide ((e:Int)<(b:Int))=true:=by simp;omega
     have HC:=aj (agF.o mid e b _ _ _ d2 _ rfl rfl rfl (HD2.o.trans Ea.o) S3.o hs1 hs2 (by rw[HD2.o];omega) ah HM3.o HM4.o);rw[<-Ea.o] at HC;go_wp2_with fail;refine HC.o.mono ?_;rintro e' w2 ⟨rfl,d3,hS,hP,hSo⟩;have HE:ak (∃ d',jU w0 blk n' off d' w2/\PermIn a b d d'/\SortedIn (ltOf iw) a b d'):=⟨d3,hS,(aay.o d3 hP hSo).1,(aay.o d3 hP hSo).2⟩
     clear hS hP hSo;go_wp2
     go_end0
     exact⟨rfl,HE.o⟩
    ·have Za:¬ (e:Int)<(b:Int):=ah
     have Y_:decide ((e:Int)<(b:Int))=false:=by simp;omega
     have HE:ak (∃ d',jU w0 blk n' off d' wc/\PermIn a b d d'/\SortedIn (ltOf iw) a b d'):=by
      have hs:SortedIn (ltOf iw) mid b d2:=by have:=HM3.o;rw[show e=b by omega] at this;exact this
      have:=aay.o d2 (permIn_refl _ _ _) hs;exact⟨d2,S3.o,this.1,this.2⟩
     go_wp2
     go_end0
     exact⟨rfl,HE.o⟩
   ·have Y9:¬ (mid:Int)<(e:Int):=ah
    have Y8:decide ((mid:Int)<(e:Int))=false:=by simp;omega
    have HE:ak (∃ d',jU w0 blk n' off d' wc/\PermIn a b d d'/\SortedIn (ltOf iw) a b d'):=by
     have hs:SortedIn (ltOf iw) mid b d2:=by have:=HM4.o;rw[show e=mid by omega] at this;exact this
     have:=aay.o d2 (permIn_refl _ _ _) hs;exact⟨d2,S3.o,this.1,this.2⟩
    go_wp2
    go_end0
    exact⟨rfl,HE.o⟩
theorem H_(H:qb off d0)(cap:Nat):∀ N,Pv off d0 cap N:=by
 intro N
 induction N with
 | zero=>intro a m b az mz bz d w _ _ _ _ _ h1 h2 _ h3;omega
 | succ N ih=>
  intro a m b az mz bz d w ha hm hb hds S ham hmb hbn hN h1 h2;rw[<-hds]
  by_cases e1:m=a+1
  ·exact KO H cap a m b az mz bz ha hm hb d w hds S ham hmb hbn h1 h2 e1
  ·by_cases e2:b=m+1
   ·exact KP H cap a m b az mz bz ha hm hb d w hds S ham hmb hbn h1 h2 e2 ah
   ·exact OL H cap a m b az mz bz ha hm hb d w hds S ham hmb hbn h1 h2 ah ah N hN ih
end
end
end Go.Proofs.YtgfkglhelfkpoaaGreat
