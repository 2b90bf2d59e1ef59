/- Texts put together: WSort2a, WSort2b. -/
import Derived.Test.YtgfkglhelfkpoaaGreatRSA
set_option maxRecDepth 100000
set_option maxHeartbeats 4000000
open Go.Lib (hid)
namespace Go.Proofs.YtgfkglhelfkpoaaGreat
section
open Go.RowKit Plain PSort
open Go.Sort (PermIn SortedIn SWO swp swp_permIn permIn_refl permIn_trans permIn_mono size_swp HoldsK grow)
section
variable {w0:World} {blk n' off:Nat} [Inhabited (TmS w0 blk n')] {d0:Array (TmS w0 blk n')}
theorem symOneL_any (H:SortC off d0) (cap a m b:Nat) (az mz bz:Int) (ha:az=a) (hm:mz=m) (hb:bz=b) (d:Array (TmS w0 blk n')) (w:World) (hds:d.size=d0.size) (S:SW2 w0 blk n' off d w) (ham:a<m) (hmb:m<b) (hbn:b≤d.size) (h1:SortedIn (ltOf cfS) a m d) (h2:SortedIn (ltOf cfS) m b d) (hone:m=a+1) :
  Calls Tryz.prog 268 #[.slice (some ⟨blk,off,none⟩) d.size cap,.int .i64 az,.int .i64 mz,.int .i64 bz,.func (.func 178) #[] #[]] w fun e w'=>e=.returned (.tuple #[])∧∃ d',SW2 w0 blk n' off d' w'∧PermIn a b d d'∧SortedIn (ltOf cfS) a b d':=by
 subst ha hm hb
 have mixed:Tryz.prog.follows .mixedOrders=true:=by kernel_rfl
 have hsz:=H.sz
 have hsz':d.size<4611686018427387904:=by omega
 have S0:=hid S
 have HDS:=hid hds
 have H1:=hid h1
 have H2:=hid h2
 clear S hds h1 h2
 have hq1:((m:Int) - (a:Int)==1)=true:=by simp;omega
 have HONE:=hid hone
 clear hone
 go_enter Tryz.func268,Tryz.ntmps268
 go_wp2
 go_loopg [10,11] b (fun kx s10 s11 wr=>∃ (i j:Nat),s10=.int .i64 (i:Int)∧s11=.int .i64 (j:Int)∧m≤i∧i≤j∧j≤b∧j - i≤kx∧Hid (SW2 w0 blk n' off d wr)∧Hid (m<i→ltOf cfS d[i - 1]! d[a]! = true)∧Hid (j<b→ltOf cfS d[j]! d[a]! = false))
 case atStart=>exact ⟨m,b,rfl,rfl,by omega,by omega,by omega,by omega,S0,(fun h=>by omega),(fun h=>by omega)⟩
 case round=>
  clear S0
  obtain ⟨i,j,rfl,rfl,hmi,hij,hjb,hkx,S1,HL,HG⟩:=hrel
  by_cases hlt:i<j
  ·have hltz:(i:Int)<(j:Int):=by omega
   obtain ⟨h,hh⟩:∃ h:Nat,h=(i+j) / 2:=⟨_,rfl⟩
   have hme:((i:Int)+(j:Int)) / 2=(h:Int):=by omega
   have hi1:i≤h:=by omega
   have hj1:h<j:=by omega
   clear hh
   cases hL:ltOf cfS d[h]! d[a]! with
   | true=>
    have ea1:((h:Int)).toNat=h:=by omega
    have pa1:(0:Int)≤(h:Int):=by omega
    have ba1:(h:Int)<(d.size:Int):=by omega
    have ra1:IntKind.i64.wrap ((h:Int))=(h:Int):=by rw [IntKind.wrap_i64];omega
    have ec1:((a:Int)).toNat=a:=by omega
    have pc1:(0:Int)≤(a:Int):=by omega
    have bc1:(a:Int)<(d.size:Int):=by omega
    have rc1:IntKind.i64.wrap ((a:Int))=(a:Int):=by rw [IntKind.wrap_i64];omega
    obtain ⟨A1,A1',c1,c1',v1,v1',z1,X1,hz1⟩:=tstF H S1.out (by have:=HDS.out;omega) (h) (a) (by omega) (by omega)
    have xa01:=X1.a0
    have xa11:=X1.a1
    have xb01:=X1.b0
    have xb11:=X1.b1
    have xc1:=X1.call
    have hv1:z1<0:=by rw [hz1];exact of_decide_eq_true hL
    have hd1:decide (z1<0)=true:=decide_eq_true hv1
    clear hz1 X1
    go_wp2_with fail
    go_quiet_grown (first | (go_at_call 178;refine Calls.grown_of (xc1 _ _)))
    have S2:Hid (SW2 w0 blk n' off d (grow (wr.drewN nq) osq)):=S1.out.grown nq osq
    clear xa01 xa11 xb01 xb11 xc1 S1
    generalize grow (wr.drewN nq) osq=w2 at S2 ⊢
    clear nq osq
    have HL2:Hid (m<h+1→ltOf cfS d[h+1 - 1]! d[a]! = true):=fun _=>hL
    go_wp2
    go_roundg (j - (h+1))
    case measure=>omega
    case rel=>exact ⟨h+1,j,by first | rfl | go_num,rfl,by omega,by omega,hjb,by omega,S2,HL2,HG⟩
   | false=>
    have ea2:((h:Int)).toNat=h:=by omega
    have pa2:(0:Int)≤(h:Int):=by omega
    have ba2:(h:Int)<(d.size:Int):=by omega
    have ra2:IntKind.i64.wrap ((h:Int))=(h:Int):=by rw [IntKind.wrap_i64];omega
    have ec2:((a:Int)).toNat=a:=by omega
    have pc2:(0:Int)≤(a:Int):=by omega
    have bc2:(a:Int)<(d.size:Int):=by omega
    have rc2:IntKind.i64.wrap ((a:Int))=(a:Int):=by rw [IntKind.wrap_i64];omega
    obtain ⟨A2,A2',c2,c2',v2,v2',z2,X2,hz2⟩:=tstF H S1.out (by have:=HDS.out;omega) (h) (a) (by omega) (by omega)
    have xa02:=X2.a0
    have xa12:=X2.a1
    have xb02:=X2.b0
    have xb12:=X2.b1
    have xc2:=X2.call
    have hv2:¬ z2<0:=by rw [hz2];exact of_decide_eq_false hL
    have hd2:decide (z2<0)=false:=decide_eq_false hv2
    clear hz2 X2
    go_wp2_with fail
    go_quiet_grown (first | (go_at_call 178;refine Calls.grown_of (xc2 _ _)))
    have S2:Hid (SW2 w0 blk n' off d (grow (wr.drewN nq) osq)):=S1.out.grown nq osq
    clear xa02 xa12 xb02 xb12 xc2 S1
    generalize grow (wr.drewN nq) osq=w2 at S2 ⊢
    clear nq osq
    have HG2:Hid (h<b→ltOf cfS d[h]! d[a]! = false):=fun _=>hL
    go_wp2
    go_roundg (h - i)
    case measure=>omega
    case rel=>exact ⟨i,h,rfl,rfl,hmi,by omega,by omega,by omega,S2,HL,HG2⟩
  ·obtain rfl:i=j:=by omega
   have hone:=HONE.out
   have hwp:IntKind.i64.wrap ((i:Int) - 1)=(i:Int) - 1:=by rw [IntKind.wrap_i64];omega
   have HPR:Hid (PermIn a b d d):=permIn_refl _ _ _
   have hai:a<i:=by omega
   have hml:Hid (a+1<i→ltOf cfS d[i - 1]! d[a]! = true):=fun h=>HL.out (by omega)
   have hm2:Hid (SortedIn (ltOf cfS) (a+1) b d):=by have:=H2.out;rw [hone] at this;exact this
   clear hone
   go_wp2
   go_loopg [13] (i - 1 - a) (fun kx s13 wr=>∃ (k:Nat) (dk:Array (TmS w0 blk n')),s13=.int .i64 (k:Int)∧a≤k∧k≤i - 1∧i - 1 - k≤kx∧dk.size=d.size∧Hid (SW2 w0 blk n' off dk wr)∧Hid (PermIn a b d dk)∧Hid (∀ t,dk[t]! = rotF (fun t=>d[t]!) a (a+1) (k+1) t))
   case atStart=>exact ⟨a,d,rfl,by omega,by omega,by omega,rfl,S1,HPR,by show ∀ t,_;rw [rotF_right];intro t;rfl⟩
   case round=>
    clear S1
    obtain ⟨k,dk,rfl,hak,hki,hkx,hdk,S1,HP,HF⟩:=hrel
    by_cases hlt:k<i - 1
    ·have hltz:(k:Int)<(i:Int) - 1:=by omega
     go_wp2_with fail
     have ea3:((k:Int)).toNat=k:=by omega
     have pa3:(0:Int)≤(k:Int):=by omega
     have ba3:(k:Int)<(d.size:Int):=by omega
     have ra3:IntKind.i64.wrap ((k:Int))=(k:Int):=by rw [IntKind.wrap_i64];omega
     have ec3:((k:Int)+1).toNat=k+1:=by omega
     have pc3:(0:Int)≤(k:Int)+1:=by omega
     have bc3:(k:Int)+1<(d.size:Int):=by omega
     have rc3:IntKind.i64.wrap ((k:Int)+1)=(k:Int)+1:=by rw [IntKind.wrap_i64];omega
     obtain ⟨A3,A3',c3,c3',v3,v3',X3⟩:=xchF H S1.out (by have:=HDS.out;omega) (k) (k+1) (by omega) (by omega) (by omega)
     have xa03:=X3.a0
     have xa13:=X3.a1
     have xb03:=X3.b0
     have xb13:=X3.b1
     have xf03:=(X3.fr 0 (by omega)).1
     have xf13:=(X3.fr 1 (by omega)).1
     have xg03:=(X3.fr 0 (by omega)).2
     have xg13:=(X3.fr 1 (by omega)).2
     rw [Nat.add_zero] at xf03 xg03
     have xs13:=X3.s1
     have xs23:=X3.s2
     have xs33:=X3.s3
     have S2:=hid X3.sw
     clear S1 X3
     go_wp2_with fail
     go_region
     clear xa03 xa13 xb03 xb13 xf03 xf13 xg03 xg13 xs13 xs23 xs33
     generalize ((((wr.setCell ⟨blk,off+(k)*2,none⟩ (.slice A3' n' c3')).setCell ⟨blk,off+(k)*2+1,none⟩ (.int .i64 v3')).setCell ⟨blk,off+(k+1)*2,none⟩ (.slice A3 n' c3)).setCell ⟨blk,off+(k+1)*2+1,none⟩ (.int .i64 v3)).drew=w2 at S2 ⊢
     have HP2:Hid (PermIn a b d (swp dk k (k+1))):=permIn_trans _ _ _ _ _ HP.out (swp_permIn _ _ _ _ _ (by omega) (by omega) (by omega) (by omega) (by omega))
     have HF2:Hid (∀ t,(swp dk k (k+1))[t]! = rotF (fun t=>d[t]!) a (a+1) (k+2) t):=rotF_up (by omega) (by omega) hdk HF.out
     go_wp2
     go_roundg (i - 1 - (k+1))
     case measure=>omega
     case rel=>exact ⟨k+1,swp dk k (k+1),by first | rfl | go_num,by omega,by omega,by omega,by rw [size_swp];exact hdk,S2,HP2,HF2⟩
    ·have hltz:¬ (k:Int)<(i:Int) - 1:=by omega
     have HE:Hid (SortedIn (ltOf cfS) a b dk):=by
      have e:k+1=i:=by omega
      have hf:=HF.out
      rw [e] at hf
      exact merge_left swoS hai hjb hm2.out hml.out HG.out hf
     go_wp2
     first | go_end0 | (refine bodyPost_ret (v:=.tuple #[]) (by simp [results,Tryz.results268,go_sem]) rfl ?_)
     exact ⟨rfl,dk,S1.out,HP.out,HE.out⟩
end
end
section
open Go.RowKit Plain PSort
open Go.Sort (PermIn SortedIn SWO swp swp_permIn permIn_refl permIn_trans permIn_mono size_swp HoldsK grow)
section
variable {w0:World} {blk n' off:Nat} [Inhabited (TmS w0 blk n')] {d0:Array (TmS w0 blk n')}
theorem symOneR_any (H:SortC off d0) (cap a m b:Nat) (az mz bz:Int) (ha:az=a) (hm:mz=m) (hb:bz=b) (d:Array (TmS w0 blk n')) (w:World) (hds:d.size=d0.size) (S:SW2 w0 blk n' off d w) (_ham:a<m) (hmb:m<b) (hbn:b≤d.size) (h1:SortedIn (ltOf cfS) a m d) (h2:SortedIn (ltOf cfS) m b d) (hone:b=m+1) (hno:a+1<m) :
  Calls Tryz.prog 268 #[.slice (some ⟨blk,off,none⟩) d.size cap,.int .i64 az,.int .i64 mz,.int .i64 bz,.func (.func 178) #[] #[]] w fun e w'=>e=.returned (.tuple #[])∧∃ d',SW2 w0 blk n' off d' w'∧PermIn a b d d'∧SortedIn (ltOf cfS) a b d':=by
 subst ha hm hb
 have mixed:Tryz.prog.follows .mixedOrders=true:=by kernel_rfl
 have hsz:=H.sz
 have hsz':d.size<4611686018427387904:=by omega
 have S0:=hid S
 have HDS:=hid hds
 have H1:=hid h1
 have H2:=hid h2
 clear S hds h1 h2
 have hq1:((m:Int) - (a:Int)==1)=false:=by simp;omega
 have hq2:((b:Int) - (m:Int)==1)=true:=by simp;omega
 have HONE:=hid hone
 clear hone
 go_enter Tryz.func268,Tryz.ntmps268
 go_wp2
 go_loopg [14,15] m (fun kx s14 s15 wr=>∃ (i j:Nat),s14=.int .i64 (i:Int)∧s15=.int .i64 (j:Int)∧a≤i∧i≤j∧j≤m∧j - i≤kx∧Hid (SW2 w0 blk n' off d wr)∧Hid (a<i→ltOf cfS d[m]! d[i - 1]! = false)∧Hid (j<m→ltOf cfS d[m]! d[j]! = true))
 case atStart=>exact ⟨a,m,rfl,rfl,by omega,by omega,by omega,by omega,S0,(fun h=>by omega),(fun h=>by omega)⟩
 case round=>
  clear S0
  obtain ⟨i,j,rfl,rfl,hai,hij,hjm,hkx,S1,HL,HG⟩:=hrel
  by_cases hlt:i<j
  ·have hltz:(i:Int)<(j:Int):=by omega
   obtain ⟨h,hh⟩:∃ h:Nat,h=(i+j) / 2:=⟨_,rfl⟩
   have hme:((i:Int)+(j:Int)) / 2=(h:Int):=by omega
   have hi1:i≤h:=by omega
   have hj1:h<j:=by omega
   clear hh
   cases hL:ltOf cfS d[m]! d[h]! with
   | false=>
    have ea1:((m:Int)).toNat=m:=by omega
    have pa1:(0:Int)≤(m:Int):=by omega
    have ba1:(m:Int)<(d.size:Int):=by omega
    have ra1:IntKind.i64.wrap ((m:Int))=(m:Int):=by rw [IntKind.wrap_i64];omega
    have ec1:((h:Int)).toNat=h:=by omega
    have pc1:(0:Int)≤(h:Int):=by omega
    have bc1:(h:Int)<(d.size:Int):=by omega
    have rc1:IntKind.i64.wrap ((h:Int))=(h:Int):=by rw [IntKind.wrap_i64];omega
    obtain ⟨A1,A1',c1,c1',v1,v1',z1,X1,hz1⟩:=tstF H S1.out (by have:=HDS.out;omega) (m) (h) (by omega) (by omega)
    have xa01:=X1.a0
    have xa11:=X1.a1
    have xb01:=X1.b0
    have xb11:=X1.b1
    have xc1:=X1.call
    have hv1:¬ z1<0:=by rw [hz1];exact of_decide_eq_false hL
    have hd1:decide (z1<0)=false:=decide_eq_false hv1
    clear hz1 X1
    go_wp2_with fail
    go_quiet_grown (first | (go_at_call 178;refine Calls.grown_of (xc1 _ _)))
    have S2:Hid (SW2 w0 blk n' off d (grow (wr.drewN nq) osq)):=S1.out.grown nq osq
    clear xa01 xa11 xb01 xb11 xc1 S1
    generalize grow (wr.drewN nq) osq=w2 at S2 ⊢
    clear nq osq
    have HL2:Hid (a<h+1→ltOf cfS d[m]! d[h+1 - 1]! = false):=fun _=>hL
    go_wp2
    go_roundg (j - (h+1))
    case measure=>omega
    case rel=>exact ⟨h+1,j,by first | rfl | go_num,rfl,by omega,by omega,hjm,by omega,S2,HL2,HG⟩
   | true=>
    have ea2:((m:Int)).toNat=m:=by omega
    have pa2:(0:Int)≤(m:Int):=by omega
    have ba2:(m:Int)<(d.size:Int):=by omega
    have ra2:IntKind.i64.wrap ((m:Int))=(m:Int):=by rw [IntKind.wrap_i64];omega
    have ec2:((h:Int)).toNat=h:=by omega
    have pc2:(0:Int)≤(h:Int):=by omega
    have bc2:(h:Int)<(d.size:Int):=by omega
    have rc2:IntKind.i64.wrap ((h:Int))=(h:Int):=by rw [IntKind.wrap_i64];omega
    obtain ⟨A2,A2',c2,c2',v2,v2',z2,X2,hz2⟩:=tstF H S1.out (by have:=HDS.out;omega) (m) (h) (by omega) (by omega)
    have xa02:=X2.a0
    have xa12:=X2.a1
    have xb02:=X2.b0
    have xb12:=X2.b1
    have xc2:=X2.call
    have hv2:z2<0:=by rw [hz2];exact of_decide_eq_true hL
    have hd2:decide (z2<0)=true:=decide_eq_true hv2
    clear hz2 X2
    go_wp2_with fail
    go_quiet_grown (first | (go_at_call 178;refine Calls.grown_of (xc2 _ _)))
    have S2:Hid (SW2 w0 blk n' off d (grow (wr.drewN nq) osq)):=S1.out.grown nq osq
    clear xa02 xa12 xb02 xb12 xc2 S1
    generalize grow (wr.drewN nq) osq=w2 at S2 ⊢
    clear nq osq
    have HG2:Hid (h<m→ltOf cfS d[m]! d[h]! = true):=fun _=>hL
    go_wp2
    go_roundg (h - i)
    case measure=>omega
    case rel=>exact ⟨i,h,rfl,rfl,hai,by omega,by omega,by omega,S2,HL,HG2⟩
  ·obtain rfl:i=j:=by omega
   have HPR:Hid (PermIn a b d d):=permIn_refl _ _ _
   go_wp2
   go_loopg [17] (m - i) (fun kx s17 wr=>∃ (k:Nat) (dk:Array (TmS w0 blk n')),s17=.int .i64 (k:Int)∧i≤k∧k≤m∧k - i≤kx∧dk.size=d.size∧Hid (SW2 w0 blk n' off dk wr)∧Hid (PermIn a b d dk)∧Hid (∀ t,dk[t]! = rotF (fun t=>d[t]!) k m (m+1) t))
   case atStart=>exact ⟨m,d,rfl,by omega,by omega,by omega,rfl,S1,HPR,by show ∀ t,_;rw [rotF_left];intro t;rfl⟩
   case round=>
    clear S1
    obtain ⟨k,dk,rfl,hak,hki,hkx,hdk,S1,HP,HF⟩:=hrel
    by_cases hlt:i<k
    ·obtain ⟨kp,rfl⟩:∃ kp,k=kp+1:=⟨k - 1,by omega⟩
     have hltz:(i:Int)<(kp:Int)+1:=by omega
     have hwp:IntKind.i64.wrap (kp:Int)=(kp:Int):=by rw [IntKind.wrap_i64];omega
     go_wp2_with fail
     have ea3:((kp:Int)+1).toNat=kp+1:=by omega
     have pa3:(0:Int)≤(kp:Int)+1:=by omega
     have ba3:(kp:Int)+1<(d.size:Int):=by omega
     have ra3:IntKind.i64.wrap ((kp:Int)+1)=(kp:Int)+1:=by rw [IntKind.wrap_i64];omega
     have ec3:((kp:Int)).toNat=kp:=by omega
     have pc3:(0:Int)≤(kp:Int):=by omega
     have bc3:(kp:Int)<(d.size:Int):=by omega
     have rc3:IntKind.i64.wrap ((kp:Int))=(kp:Int):=by rw [IntKind.wrap_i64];omega
     obtain ⟨A3,A3',c3,c3',v3,v3',X3⟩:=xchF H S1.out (by have:=HDS.out;omega) (kp+1) (kp) (by omega) (by omega) (by omega)
     have xa03:=X3.a0
     have xa13:=X3.a1
     have xb03:=X3.b0
     have xb13:=X3.b1
     have xf03:=(X3.fr 0 (by omega)).1
     have xf13:=(X3.fr 1 (by omega)).1
     have xg03:=(X3.fr 0 (by omega)).2
     have xg13:=(X3.fr 1 (by omega)).2
     rw [Nat.add_zero] at xf03 xg03
     have xs13:=X3.s1
     have xs23:=X3.s2
     have xs33:=X3.s3
     have S2:=hid X3.sw
     clear S1 X3
     go_wp2_with fail
     go_region
     clear xa03 xa13 xb03 xb13 xf03 xf13 xg03 xg13 xs13 xs23 xs33
     generalize ((((wr.setCell ⟨blk,off+(kp+1)*2,none⟩ (.slice A3' n' c3')).setCell ⟨blk,off+(kp+1)*2+1,none⟩ (.int .i64 v3')).setCell ⟨blk,off+(kp)*2,none⟩ (.slice A3 n' c3)).setCell ⟨blk,off+(kp)*2+1,none⟩ (.int .i64 v3)).drew=w2 at S2 ⊢
     have HP2:Hid (PermIn a b d (swp dk (kp+1) kp)):=permIn_trans _ _ _ _ _ HP.out (swp_permIn _ _ _ _ _ (by omega) (by omega) (by omega) (by omega) (by omega))
     have HF2:Hid (∀ t,(swp dk (kp+1) kp)[t]! = rotF (fun t=>d[t]!) kp m (m+1) t):=by
      have h:=rotF_down (m:=m) (k:=kp+1) (by omega) (by omega) (by omega:m<d.size) hdk HF.out
      simp only [Nat.add_sub_cancel] at h
      exact h
     go_wp2
     go_roundg (kp - i)
     case measure=>omega
     case rel=>exact ⟨kp,swp dk (kp+1) kp,by first | rfl | go_num | (congr 1;omega),by omega,by omega,by omega,by rw [size_swp];exact hdk,S2,HP2,HF2⟩
    ·have hltz:¬ (i:Int)<(k:Int):=by omega
     have HE:Hid (SortedIn (ltOf cfS) a b dk):=by
      have e:k=i:=by omega
      have hf:=HF.out
      rw [e] at hf
      have h:=merge_right swoS hai hjm H1.out HL.out HG.out hf
      have:=HONE.out
      rw [this];exact h
     go_wp2
     first | go_end0 | (refine bodyPost_ret (v:=.tuple #[]) (by simp [results,Tryz.results268,go_sem]) rfl ?_)
     exact ⟨rfl,dk,S1.out,HP.out,HE.out⟩
end
end
end Go.Proofs.YtgfkglhelfkpoaaGreat
