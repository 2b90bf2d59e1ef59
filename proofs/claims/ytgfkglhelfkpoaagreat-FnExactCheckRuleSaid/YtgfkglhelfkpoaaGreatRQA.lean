/- Texts put together: PGrid, WPolyG, WPv16, WPv17. -/
import Derived.Test.YtgfkglhelfkpoaaGreatRSJ
import Derived.Test.YtgfkglhelfkpoaaGreatRY
import Derived.Test.YtgfkglhelfkpoaaGreatRPD
import Derived.Test.YtgfkglhelfkpoaaGreatRPH
import Derived.Test.YtgfkglhelfkpoaaGreatRSI
import Derived.Test.YtgfkglhelfkpoaaGreatRSH
import Derived.Test.YtgfkglhelfkpoaaGreatRSA
import Derived.Test.YtgfkglhelfkpoaaGreatRSP
import Derived.Test.YtgfkglhelfkpoaaGreatRSM
import Derived.Deep.RegionHeld3
import Derived.Deep.CutRange
set_option maxRecDepth 100000
set_option maxHeartbeats 4000000
open Go.Lib (hid)
namespace Go.Proofs.YtgfkglhelfkpoaaGreat
section
open Plain
def vanT:List (List Int):=
 [[1,0,0,0,0,0,0,0,0,0,0,0,0],
   [144550,12,999970,666742,249877,200159,999849,714401,624940,888916,199994,727276,583335],
   [150637,734609,729850,155882,924463,336684,406009,885382,384114,409981,265973,496535,119899],
   [343494,542247,393919,98641,589844,728168,702975,741363,102378,172225,332397,754927,497440],
   [921505,664163,361692,889034,140206,154920,719247,826830,759172,637855,666188,79713,179496],
   [711232,722190,771274,873177,749152,996941,708532,93800,201946,707596,384705,557978,521501],
   [619573,256947,915053,114582,172592,858201,922025,341123,267896,242019,244354,644796,400857],
   [613949,691802,511679,140078,621221,511710,906384,577354,822525,727521,735268,825425,315108],
   [470857,59166,495584,736153,679346,151572,603203,260501,364836,866213,221476,199345,891766],
   [926041,709435,709559,108127,651459,213840,755442,882592,36415,939385,114501,168147,785078],
   [834375,821894,295518,278846,565636,927225,516022,614982,705939,518645,399599,116419,404921],
   [760738,834364,613468,613600,637814,350049,925975,491144,711446,564512,233102,466264,797548],
   [503069,963193,202455,325153,18408,570549,834364,570549,18408,325153,202455,963193,503069]]
def vanA (j x:Nat):Int:=(vanT.getD j []).getD x 0
theorem van_all:((List.range 13).all fun j=>(List.range 13).all fun k=>decide (Plain.sumN (fun x=>vanA j x*(x:Int) ^ k) 13 % 1000003=if j=k then 1 else 0))=true:=by decide +kernel
theorem van_at {j k:Nat} (hj:j<13) (hk:k<13):Plain.sumN (fun x=>vanA j x*(x:Int) ^ k) 13 % 1000003=if j=k then 1 else 0:=by
 have h:=List.all_eq_true.1 van_all j (List.mem_range.2 hj)
 have h2:=List.all_eq_true.1 h k (List.mem_range.2 hk)
 exact of_decide_eq_true h2
theorem sumN_swap (f:Nat→Nat→Int) (n m:Nat):Plain.sumN (fun i=>Plain.sumN (fun j=>f i j) m) n=Plain.sumN (fun j=>Plain.sumN (fun i=>f i j) n) m:=by
 induction n with
 | zero=>simp only [Plain.sumN];rw [sumN_zero]
 | succ n ih=>simp only [Plain.sumN];rw [ih,sumN_add]
theorem dvd_sumN {p:Int} {f:Nat→Int}:∀ n,(∀ k,k<n→p ∣ f k)→p ∣ Plain.sumN f n:=by
 intro n
 induction n with
 | zero=>intro _;exact ⟨0,by simp [Plain.sumN]⟩
 | succ n ih=>intro h;exact Int.dvd_add (ih fun k hk=>h k (by omega)) (h n (by omega))
theorem sumN_one {a:Nat→Int} {j:Nat}:∀ n,j<n→(∀ k,k<n→k≠j→a k=0)→Plain.sumN a n=a j:=by
 intro n
 induction n with
 | zero=>intro h;omega
 | succ n ih=>
  intro hj h
  simp only [Plain.sumN]
  by_cases e:j=n
  ·subst e
   rw [sumN_congr (g:=fun _=>0) j fun k hk=>h k (by omega) (by omega),sumN_zero,Int.zero_add]
  ·rw [ih (by omega) fun k hk hkj=>h k (by omega) hkj,h n (by omega) (fun e'=>e e'.symm),Int.add_zero]
theorem uni_zero {a:Nat→Int} (h:∀ x:Nat,x<13→(1000003:Int) ∣ Plain.sumN (fun k=>(x:Int) ^ k*a k) 13) {j:Nat} (hj:j<13):(1000003:Int) ∣ a j:=by
 have h1:(1000003:Int) ∣ Plain.sumN (fun x=>vanA j x*Plain.sumN (fun k=>(x:Int) ^ k*a k) 13) 13:=dvd_sumN 13 fun x hx=>Int.dvd_mul_of_dvd_right (h x hx)
 have h2:Plain.sumN (fun x=>vanA j x*Plain.sumN (fun k=>(x:Int) ^ k*a k) 13) 13=Plain.sumN (fun k=>a k*Plain.sumN (fun x=>vanA j x*(x:Int) ^ k) 13) 13:=by
  rw [sumN_congr (g:=fun x=>Plain.sumN (fun k=>vanA j x*((x:Int) ^ k*a k)) 13) 13 fun x _=>(sumN_mul _ _ _).symm,sumN_swap]
  refine sumN_congr 13 fun k _=>?_
  rw [←sumN_mul]
  refine sumN_congr 13 fun x _=>?_
  rw [←Int.mul_assoc,Int.mul_comm]
 rw [h2] at h1
 have h3:∀ k,k<13→(1000003:Int) ∣ a k*Plain.sumN (fun x=>vanA j x*(x:Int) ^ k) 13 - (if k=j then a k else 0):=fun k hk=>by
  have hv:=van_at hj hk
  by_cases e:k=j
  ·subst e
   rw [if_pos rfl] at hv ⊢
   obtain ⟨q,hq⟩:∃ q,Plain.sumN (fun x=>vanA k x*(x:Int) ^ k) 13=1000003*q+1:=⟨Plain.sumN (fun x=>vanA k x*(x:Int) ^ k) 13 / 1000003,by omega⟩
   rw [hq]
   exact ⟨a k*q,by rw [Int.mul_add,Int.mul_one,Int.add_sub_cancel,←Int.mul_assoc,Int.mul_comm (a k),Int.mul_assoc]⟩
  ·rw [if_neg (fun e'=>e e'.symm)] at hv
   rw [if_neg e,Int.sub_zero]
   exact Int.dvd_mul_of_dvd_right (Int.dvd_of_emod_eq_zero hv)
 have h4:=dvd_sumN 13 h3
 have h5:Plain.sumN (fun k=>a k*Plain.sumN (fun x=>vanA j x*(x:Int) ^ k) 13 - (if k=j then a k else 0)) 13=Plain.sumN (fun k=>a k*Plain.sumN (fun x=>vanA j x*(x:Int) ^ k) 13) 13 + -1*Plain.sumN (fun k=>if k=j then a k else 0) 13:=by
  rw [←sumN_mul,←sumN_add]
  exact sumN_congr 13 fun k _=>by omega
 rw [h5,sumN_one (j:=j) 13 hj (fun k _ hk=>if_neg hk),if_pos rfl] at h4
 obtain ⟨x,hx⟩:=h4
 obtain ⟨y,hy⟩:=h1
 exact ⟨y - x,by omega⟩
def sumT (φ:Term'→Int):List Term'→Int
 | []=>0
 | t :: ts=>φ t+sumT φ ts
theorem sumT_congr {φ ψ:Term'→Int}:∀ {ts:List Term'},(∀ t∈ts,φ t=ψ t)→sumT φ ts=sumT ψ ts
 | [],_=>rfl
 | t :: ts,h=>by simp only [sumT];rw [h t (List.mem_cons_self ..),sumT_congr fun s hs=>h s (List.mem_cons_of_mem _ hs)]
theorem sumT_zero:∀ {ts:List Term'} {φ:Term'→Int},(∀ t∈ts,φ t=0)→sumT φ ts=0
 | [],_,_=>rfl
 | t :: ts,_,h=>by simp only [sumT];rw [h t (List.mem_cons_self ..),sumT_zero fun s hs=>h s (List.mem_cons_of_mem _ hs)];rfl
theorem sumT_idx (φ:Term'→Int) (ts:List Term'):Plain.sumN (fun i=>φ (tmAt ts i)) ts.length=sumT φ ts:=by
 induction ts with
 | nil=>rfl
 | cons t ts ih=>
  rw [List.length_cons,sumN_head]
  simp only [sumT]
  rw [←ih]
  rfl
def monN (zs e:List Int):Nat→Int
 | 0=>1
 | k+1=>monN zs e k*cf zs k ^ (cf e k).toNat
theorem monN_congr {zs zs' e e':List Int}:∀ {k:Nat},(∀ i,i<k→cf zs i=cf zs' i∧cf e i=cf e' i)→monN zs e k=monN zs' e' k
 | 0,_=>rfl
 | k+1,h=>by simp only [monN];rw [monN_congr fun i hi=>h i (by omega),(h k (by omega)).1,(h k (by omega)).2]
theorem tvL_mod (c:Int) (e zs:List Int):∀ k,tvL c e zs k % 1000003=c*monN zs e k % 1000003:=by
 intro k
 induction k with
 | zero=>simp [tvL,monN]
 | succ k ih=>
  simp only [tvL,monN,tm,pw,Int.emod_emod]
  rw [←Int.mul_assoc,Int.mul_emod,ih,Int.emod_emod,←Int.mul_emod]
theorem pvL_mod (ts:List Term') (zs:List Int):∀ k,pvL ts zs k % 1000003=Plain.sumN (fun i=>(tmAt ts i).2*monN zs (tmAt ts i).1 (tmAt ts i).1.length) k % 1000003:=by
 intro k
 induction k with
 | zero=>rfl
 | succ k ih=>
  have h:=tvL_mod (tmAt ts k).2 (tmAt ts k).1 zs (tmAt ts k).1.length
  simp only [pvL,Plain.sumN,pl]
  omega
theorem pvL_dvd {ts:List Term'} {zs:List Int} {n:Nat} (hl:LenT n ts) (h:pvL ts zs ts.length=0):(1000003:Int) ∣ sumT (fun t=>t.2*monN zs t.1 n) ts:=by
 have h1:=pvL_mod ts zs ts.length
 rw [h,sumT_idx (fun t=>t.2*monN zs t.1 t.1.length)] at h1
 have h2:sumT (fun t=>t.2*monN zs t.1 t.1.length) ts=sumT (fun t=>t.2*monN zs t.1 n) ts:=sumT_congr fun t ht=>by rw [hl t ht]
 rw [h2] at h1
 omega
def gridOk (u:Nat) (l:List Int):Prop:=l.length=u∧∀ k,k<u→0≤cf l k∧cf l k≤12
theorem cf_app_lt {a b:List Int} {k:Nat} (h:k<a.length):cf (a++b) k=cf a k:=by simp [cf,List.getD,List.getElem?_append_left h]
theorem cf_app_at {a:List Int} {x:Int}:cf (a++[x]) a.length=x:=by simp [cf,List.getD]
theorem cf_take_lt {a:List Int} {k n:Nat} (h:k<n):cf (a.take n) k=cf a k:=by simp [cf,List.getD,List.getElem?_take_of_lt h]
theorem exps_eq {a b:List Int} {n:Nat} (ha:a.length=n+1) (hb:b.length=n+1):a=b ↔ cf a n=cf b n∧a.take n=b.take n:=by
 constructor
 ·rintro rfl;exact ⟨rfl,rfl⟩
 ·rintro ⟨h1,h2⟩
  refine list_ext (by omega) fun k hk=>?_
  by_cases e:k=n
  ·rw [e];exact h1
  ·rw [←cf_take_lt (a:=a) (show k<n by omega),←cf_take_lt (a:=b) (show k<n by omega),h2]
theorem grid_zero (n:Nat):∀ ts:List Term',(∀ t∈ts,t.1.length=n∧∀ k,k<n→0≤cf t.1 k∧cf t.1 k≤12) →
  (∀ zs,gridOk n zs→(1000003:Int) ∣ sumT (fun t=>t.2*monN zs t.1 n) ts)→∀ e,(1000003:Int) ∣ sumT (fun t=>if t.1=e then t.2 else 0) ts:=by
 induction n with
 | zero=>
  intro ts ht h e
  have h0:=h [] ⟨rfl,fun k hk=>by omega⟩
  cases e with
  | nil=>
   rwa [sumT_congr (ψ:=fun t=>if t.1=[] then t.2 else 0) fun t ht'=>by rw [if_pos (List.length_eq_zero_iff.1 (ht t ht').1)];simp [monN]] at h0
  | cons x e=>
   rw [sumT_zero fun t ht'=>if_neg fun e'=>by have:=(ht t ht').1;rw [e'] at this;simp at this]
   exact ⟨0,rfl⟩
 | succ n ih=>
  intro ts ht h e
  by_cases he:e.length=n+1∧0≤cf e n∧cf e n≤12
  ·obtain ⟨he1,he2,he3⟩:=he
   have key:∀ zs',gridOk n zs'→∀ j,j<13→(1000003:Int) ∣ sumT (fun t=>if (cf t.1 n).toNat=j then t.2*monN zs' (t.1.take n) n else 0) ts:=by
    intro zs' hz j hj
    refine uni_zero (a:=fun j=>sumT (fun t=>if (cf t.1 n).toNat=j then t.2*monN zs' (t.1.take n) n else 0) ts) (fun x hx=>?_) hj
    have h1:=h (zs'++[(x:Int)]) ⟨by simp [hz.1],fun k hk=>by
     by_cases e:k=n
     ·subst e;rw [←hz.1,cf_app_at];omega
     ·rw [cf_app_lt (by have:=hz.1;omega)];exact hz.2 k (by omega)⟩
    have h2:∀ ss:List Term',(∀ t∈ss,t.1.length=n+1∧∀ k,k<n+1→0≤cf t.1 k∧cf t.1 k≤12)→sumT (fun t=>t.2*monN (zs'++[(x:Int)]) t.1 (n+1)) ss=Plain.sumN (fun k=>(x:Int) ^ k*sumT (fun t=>if (cf t.1 n).toNat=k then t.2*monN zs' (t.1.take n) n else 0) ss) 13:=by
     intro ss
     induction ss with
     | nil=>intro _;simp only [sumT,Int.mul_zero];rw [sumN_zero]
     | cons s ss ihs=>
      intro hs
      have hs1:=(hs s (List.mem_cons_self ..)).2 n (by omega)
      simp only [sumT]
      rw [ihs fun t ht=>hs t (List.mem_cons_of_mem _ ht)]
      have e1:Plain.sumN (fun k=>(x:Int) ^ k*(if (cf s.1 n).toNat=k then s.2*monN zs' (s.1.take n) n else 0)) 13=s.2*monN (zs'++[(x:Int)]) s.1 (n+1):=by
       rw [sumN_one (j:=(cf s.1 n).toNat) 13 (by omega) fun k _ hk=>by rw [if_neg (fun e=>hk e.symm),Int.mul_zero],if_pos rfl]
       simp only [monN]
       rw [show cf (zs'++[(x:Int)]) n=x by rw [←hz.1];exact cf_app_at,monN_congr (zs:=zs'++[(x:Int)]) (zs':=zs') (e:=s.1) (e':=s.1.take n) fun i hi=>⟨cf_app_lt (by rw [hz.1];exact hi),(cf_take_lt hi).symm⟩]
       rw [Int.mul_comm,Int.mul_assoc]
      rw [←e1,←sumN_add]
      exact sumN_congr 13 fun k _=>(Int.mul_add _ _ _).symm
    rw [h2 ts ht] at h1
    exact h1
   have hq:∀ (g:List Int→Int) (ss:List Term'),sumT (fun t=>t.2*g t.1) ((ss.filter fun t=>decide ((cf t.1 n).toNat=(cf e n).toNat)).map fun t=>(t.1.take n,t.2))=sumT (fun t=>if (cf t.1 n).toNat=(cf e n).toNat then t.2*g (t.1.take n) else 0) ss:=by
    intro g ss
    induction ss with
    | nil=>rfl
    | cons s ss ihs=>
     rw [List.filter_cons]
     by_cases hc:(cf s.1 n).toNat=(cf e n).toNat
     ·simp only [sumT,if_pos hc];rw [decide_eq_true hc];simp only [if_true,List.map_cons,sumT];rw [ihs]
     ·rw [decide_eq_false hc];simp only [sumT,if_neg hc,Int.zero_add];exact ihs
   have h3:=ih ((ts.filter fun t=>decide ((cf t.1 n).toNat=(cf e n).toNat)).map fun t=>(t.1.take n,t.2)) (fun t ht'=>by
    obtain ⟨s,hs,rfl⟩:=List.mem_map.1 ht'
    have hs:=(List.mem_filter.1 hs).1
    have h1:=ht s hs
    exact ⟨by simp;omega,fun k hk=>by show 0≤cf (s.1.take n) k∧_;rw [cf_take_lt hk];exact h1.2 k (by omega)⟩) (fun zs hz=>by
     rw [hq (fun l=>monN zs l n) ts]
     exact key zs hz _ (by omega)) (e.take n)
   have h4:=hq (fun l=>if l=e.take n then 1 else 0) ts
   have e5:∀ (ss:List Term'),sumT (fun t=>t.2*(if t.1=e.take n then 1 else 0)) ss=sumT (fun t=>if t.1=e.take n then t.2 else 0) ss:=fun ss=>sumT_congr fun t _=>by split<;>simp
   rw [e5] at h4
   rw [h4] at h3
   rwa [sumT_congr (ψ:=fun t=>if t.1=e then t.2 else 0) fun t ht'=>?_] at h3
   have h6:=ht t ht'
   have h7:=h6.2 n (by omega)
   have h8:=exps_eq h6.1 he1
   by_cases c1:t.1=e
   ·have:=h8.1 c1
    rw [if_pos c1,if_pos (by rw [this.1]),if_pos this.2,Int.mul_one]
   ·rw [if_neg c1]
    by_cases c2:(cf t.1 n).toNat=(cf e n).toNat
    ·rw [if_pos c2,if_neg (fun c3=>c1 (h8.2 ⟨by omega,c3⟩)),Int.mul_zero]
    ·rw [if_neg c2]
  ·rw [sumT_zero fun t ht'=>if_neg fun e'=>he ?_]
   ·exact ⟨0,rfl⟩
   ·have h1:=ht t ht'
    rw [←e']
    exact ⟨h1.1,h1.2 n (by omega)⟩
theorem cof_sum (ts:List Term') (e:List Int):cof ts e % 1000003=sumT (fun t=>if t.1=e then t.2 else 0) ts % 1000003:=by
 induction ts with
 | nil=>rfl
 | cons t ts ih=>
  simp only [cof,sumT]
  split
  ·unfold pl;omega
  ·rw [ih,Int.zero_add]
def num13:List Int→Int
 | []=>0
 | z :: r=>z*13 ^ r.length+num13 r
theorem num13_app:∀ (a b:List Int),num13 (a++b)=num13 a*13 ^ b.length+num13 b
 | [],b=>by simp [num13]
 | z :: a,b=>by
  simp only [List.cons_append,num13,List.length_append]
  rw [num13_app a b,Int.pow_add,Int.add_mul,Int.mul_assoc,Int.add_assoc]
def grid12 (l:List Int):Prop:=∀ x∈l,0≤x∧x≤12
theorem num13_bd:∀ {l:List Int},grid12 l→0≤num13 l∧num13 l+1≤13 ^ l.length
 | [],_=>by simp [num13]
 | z :: r,h=>by
  have h1:=h z (List.mem_cons_self ..)
  have h2:=num13_bd (l:=r) fun x hx=>h x (List.mem_cons_of_mem _ hx)
  simp only [num13,List.length_cons]
  rw [Int.pow_succ]
  generalize (13:Int) ^ r.length=q at h2 ⊢
  have h3:0≤z*q:=Int.mul_nonneg h1.1 (by omega)
  have h4:z*q≤12*q:=Int.mul_le_mul_of_nonneg_right h1.2 (by omega)
  omega
theorem num13_inj:∀ {a b:List Int},grid12 a→grid12 b→a.length=b.length→num13 a=num13 b→a=b
 | [],[],_,_,_,_=>rfl
 | [],_ :: _,_,_,h,_=>by simp at h
 | _ :: _,[],_,_,h,_=>by simp at h
 | x :: a,y :: b,ha,hb,hl,hn=>by
  have hl':a.length=b.length:=by simpa using hl
  have ha':grid12 a:=fun z hz=>ha z (List.mem_cons_of_mem _ hz)
  have hb':grid12 b:=fun z hz=>hb z (List.mem_cons_of_mem _ hz)
  have b1:=num13_bd ha'
  have b2:=num13_bd hb'
  simp only [num13] at hn
  rw [←hl'] at b2 hn
  have hxy:x=y:=by
   generalize (13:Int) ^ a.length=q at b1 b2 hn
   rcases Int.lt_trichotomy x y with h | h | h
   ·have:(x+1)*q≤y*q:=Int.mul_le_mul_of_nonneg_right (by omega) (by omega)
    rw [Int.add_mul,Int.one_mul] at this
    omega
   ·exact h
   ·have:(y+1)*q≤x*q:=Int.mul_le_mul_of_nonneg_right (by omega) (by omega)
    rw [Int.add_mul,Int.one_mul] at this
    omega
  subst hxy
  rw [num13_inj ha' hb' hl' (by omega)]
theorem num13_zeros:∀ n,num13 (List.replicate n 0)=0
 | 0=>rfl
 | n+1=>by simp only [List.replicate_succ,num13];rw [num13_zeros n];omega
theorem num13_twelves:∀ n,num13 (List.replicate n 12)+1=13 ^ n
 | 0=>rfl
 | n+1=>by
  simp only [List.replicate_succ,num13,List.length_replicate]
  have:=num13_twelves n
  rw [Int.pow_succ]
  omega
theorem num13_next (a:List Int) (z:Int) (n:Nat):num13 (a++(z+1) :: List.replicate n 0)=num13 (a++z :: List.replicate n 12)+1:=by
 rw [num13_app,num13_app]
 simp only [num13,List.length_cons,List.length_replicate]
 have h1:=num13_zeros n
 have h2:=num13_twelves n
 rw [Int.add_mul]
 omega
theorem gridOk_mem {u:Nat} {l:List Int}:gridOk u l ↔ l.length=u∧grid12 l:=by
 constructor
 ·rintro ⟨h1,h2⟩
  refine ⟨h1,fun x hx=>?_⟩
  obtain ⟨k,hk,rfl⟩:=List.getElem_of_mem hx
  have:=h2 k (by omega)
  rwa [show cf l k=l[k] by simp [cf,List.getD,hk]] at this
 ·rintro ⟨h1,h2⟩
  refine ⟨h1,fun k hk=>?_⟩
  have hk':k<l.length:=by omega
  have:=h2 l[k] (List.getElem_mem hk')
  rwa [show cf l k=l[k] by simp [cf,List.getD,hk']]
def NoneBef (u:Nat) (ts:List Term') (l:List Int):Prop:=gridOk u l∧∀ l',gridOk u l'→num13 l'<num13 l→pvL ts l' ts.length=0
def FirstPt (u:Nat) (ts:List Term') (l:List Int):Prop:=NoneBef u ts l∧pvL ts l ts.length≠0
theorem FirstPt.unique {u:Nat} {ts:List Term'} {a b:List Int} (ha:FirstPt u ts a) (hb:FirstPt u ts b):a=b:=by
 obtain ⟨⟨ga,na⟩,pa⟩:=ha
 obtain ⟨⟨gb,nb⟩,pb⟩:=hb
 have h1:=gridOk_mem.1 ga
 have h2:=gridOk_mem.1 gb
 refine num13_inj h1.2 h2.2 (by rw [h1.1,h2.1]) ?_
 rcases Int.lt_trichotomy (num13 a) (num13 b) with h | h | h
 ·exact absurd (nb a ga h) pa
 ·exact h
 ·exact absurd (na b gb h) pb
theorem NoneBef.zero (u:Nat) (ts:List Term'):NoneBef u ts (List.replicate u 0):=by
 refine ⟨gridOk_mem.2 ⟨List.length_replicate,fun x hx=>?_⟩,fun l' hl hn=>?_⟩
 ·rw [List.eq_of_mem_replicate hx];omega
 ·rw [num13_zeros] at hn
  have:=num13_bd (gridOk_mem.1 hl).2
  omega
theorem NoneBef.next {u n:Nat} {ts:List Term'} {a:List Int} {z:Int} (h:NoneBef u ts (a++z :: List.replicate n 12)) (hz:z<12) (h0:pvL ts (a++z :: List.replicate n 12) ts.length=0):NoneBef u ts (a++(z+1) :: List.replicate n 0):=by
 obtain ⟨hg,hb⟩:=h
 have hg':=gridOk_mem.1 hg
 refine ⟨gridOk_mem.2 ⟨by have:=hg'.1;simp at this ⊢;omega,fun x hx=>?_⟩,fun l' hl hn=>?_⟩
 ·rcases List.mem_append.1 hx with hx | hx
  ·exact hg'.2 x (List.mem_append_left _ hx)
  ·rcases List.mem_cons.1 hx with rfl | hx
   ·have:=hg'.2 z (List.mem_append_right _ (List.mem_cons_self ..));omega
   ·rw [List.eq_of_mem_replicate hx];omega
 ·rw [num13_next] at hn
  by_cases e:num13 l'=num13 (a++z :: List.replicate n 12)
  ·have hl':=gridOk_mem.1 hl
   rw [num13_inj hl'.2 hg'.2 (by rw [hl'.1,hg'.1]) e];exact h0
  ·exact hb l' hl (by omega)
theorem NoneBef.notAll {u:Nat} {ts:List Term'} (h:NoneBef u ts (List.replicate u 12)) (h0:pvL ts (List.replicate u 12) ts.length=0):¬ ∃ l,gridOk u l∧pvL ts l ts.length≠0:=by
 rintro ⟨l,hl,hp⟩
 have h1:=gridOk_mem.1 hl
 have h2:=num13_bd h1.2
 have h3:=num13_twelves u
 have h4:=gridOk_mem.1 h.1
 rw [h1.1] at h2
 by_cases e:num13 l=num13 (List.replicate u 12)
 ·rw [num13_inj h1.2 h4.2 (by rw [h1.1,h4.1]) e] at hp
  exact hp h0
 ·exact hp (h.2 l hl (by omega))
end
section
open Go.RowKit Plain
def PolyG (v:Int) (ts:List Term'):Prop:=(0≤v∧v≤12∧ts.length≤1000)∧∀ t∈ts,termOk v t=true
theorem valueS_g (b o:Nat) (v:Int) (A:Option Addr) (cap:Nat) (ts:List Term') (Z:Option Addr) (cz:Nat) (zs:List Int) (w:World) (h0:w.cell? ⟨b,o+1,none⟩=some (.slice A ts.length cap)) (hT:TmsAt w A ts) (hok:PolyG v ts) (hZ:Ints w Z zs) (hl:(zs.length:Int)=v) :
  Calls Tryz.prog 60 #[ptr b o,.slice Z zs.length cz] w fun e w'=>e=.returned (.int .i64 (pvL ts zs ts.length))∧Below w.heap.size w w':=by
 have HT:=hid hT;clear hT
 have HZ:=hid hZ;clear hZ
 have HOK:=hid hok;clear hok
 have HL:=hid hl;clear hl
 have hsz:=HOK.out.1
 have hl12:zs.length≤12:=by have:=HL.out;omega
 have ht120:=hsz.2.2
 clear hsz
 have hbl:=World.block_lt_of_cell? _ _ h0
 simp only at hbl
 go_enter Tryz.func60,Tryz.ntmps60
 go_wp2
 go_loopw [5,6] (fun s i wr=>∃ (k:Nat),k≤ts.length∧i=.int .i64 (k:Int)∧s=.int .i64 (pvL ts zs k)∧Hid (Below w.heap.size w wr)) (fun _ i _=>ts.length - (intOf i).toNat)
 case atStart=>exact ⟨0,by omega,by go_num,rfl,Below.refl _ _⟩
 case round=>
  obtain ⟨k,hk,rfl,rfl,HB⟩:=hrel
  have h0':wr.cell? ⟨b,o+1,none⟩=some (.slice A ts.length cap):=(HB.out.cell (p:=⟨b,_,none⟩) hbl).trans h0
  by_cases hlt:k<ts.length
  ·obtain ⟨bt,ot,Ai,ca,rfl,hbt,hc,hc2,hi,_⟩:=HT.out.at_ hlt
   have hp:=termOk_parts (HOK.out.2 _ (tmAt_mem hlt))
   have hel:(tmAt ts k).1.length=zs.length:=by have:=hp.1;have:=HL.out;omega
   have heo:=hp.2.2.2.1
   have hkl:(k:Int)<(ts.length:Int):=by omega
   have HP:Hid (pvL ts zs (k+1)=pl (pvL ts zs k) (tvL (tmAt ts k).2 (tmAt ts k).1 zs zs.length)):=by show _=_;rw [←hel];rfl
   have hc':w.cell? ⟨bt,ot+k*2,none⟩=some (.slice Ai zs.length ca):=by rw [←hel];exact hc
   have hcw:wr.cell? ⟨bt,ot+k*2,none⟩=some (.slice Ai zs.length ca):=(HB.out.cell (p:=⟨bt,_,none⟩) hbt).trans hc'
   have hc2':wr.cell? ⟨bt,ot+k*2+1,none⟩=some (.int .i64 (tmAt ts k).2):=(HB.out.cell (p:=⟨bt,_,none⟩) hbt).trans hc2
   obtain ⟨es,hes⟩:∃ es,es=(tmAt ts k).1:=⟨_,rfl⟩
   rw [←hes] at HP hi heo hel
   have HI:=hid hi
   have HE:=hid heo
   have HEL:=hid hel
   obtain ⟨s0,hs0⟩:∃ s0,s0=pvL ts zs k:=⟨_,rfl⟩
   rw [←hs0] at HP ⊢
   clear hp hi heo hel hc hc2 hes hs0
   generalize (tmAt ts k).2=c at *
   go_wp2
   rename World=>wo
   go_loopw [7,8] (fun x u wr2=>∃ (j:Nat),j≤zs.length∧u=.int .i64 (j:Int)∧x=.int .i64 (tvL c es zs j)∧Hid (Below w.heap.size w wr2)) (fun _ u _=>zs.length - (intOf u).toNat)
   case atStart=>exact ⟨0,by omega,by go_num,rfl,HB.out⟩
   case round=>
    obtain ⟨j,hj,rfl,rfl,HB2⟩:=hrel
    by_cases hjl:j<zs.length
    ·obtain ⟨bz,oz,rfl,_,hcz⟩:=(HZ.out.below HB2.out).cfAt (by omega)
     obtain ⟨be,oe,rfl,_,hce⟩:=(HI.out.below HB2.out).cfAt (by have:=HEL.out;omega)
     have hz1:=hcz j hjl
     have he1:=hce j (by have:=HEL.out;omega)
     have h0'':wr.cell? ⟨b,o+1,none⟩=some (.slice (some ⟨bt,ot,none⟩) ts.length cap):=(HB2.out.cell (p:=⟨b,_,none⟩) hbl).trans h0
     have hc'':wr.cell? ⟨bt,ot+k*2,none⟩=some (.slice (some ⟨be,oe,none⟩) zs.length ca):=(HB2.out.cell (p:=⟨bt,_,none⟩) hbt).trans hc'
     have hjl':(j:Int)<(zs.length:Int):=by omega
     have heb:=expsOk_bd HE.out j
     obtain ⟨m,hm⟩:∃ m:Nat,(m:Int)=cf es j:=⟨(cf es j).toNat,by omega⟩
     have HM:Hid (tvL c es zs (j+1)=tm (tvL c es zs j) (pw (cf zs j) m)):=by show _=_;rw [show m=(cf es j).toNat by omega];rfl
     have hm12:m≤12:=by omega
     rw [←hm] at he1
     clear hcz hce heb hm
     generalize cf zs j=x at *
     obtain ⟨y,hy⟩:∃ y,y=tvL c es zs j:=⟨_,rfl⟩
     rw [←hy] at HM ⊢
     clear hy
     have HPW:Hid (∀ n,Calls Tryz.prog 126 #[.int .i64 x,.int .i64 m] (wr.drewN n) fun e w'=>e=.returned (.int .i64 (pw x m))∧w'=wr.drewN n):=fun n=>
      (powerS_any x m _ (by omega)).mono fun e w' ⟨h1,h2⟩=>⟨h1,h2.symm⟩
     have HTM:Hid (∀ n,Calls Tryz.prog 125 #[.int .i64 y,.int .i64 (pw x m)] (wr.drewN n) fun e w'=>e=.returned (.int .i64 (tm y (pw x m)))∧w'=wr.drewN n):=fun n=>
      (timesS_any y (pw x m) _).mono fun e w' ⟨h1,h2⟩=>⟨h1,h2.symm⟩
     generalize pw x m=pz at *
     generalize tm y pz=tz at *
     go_wp2
     go_quiet (first | (go_at_call 126;exact Calls.quiet_of_same (HPW.out _)) | (go_at_call 125;exact Calls.quiet_of_same (HTM.out _)))
     go_wp2
     go_roundw
     case rel=>exact ⟨j+1,by omega,by go_num,by rw [HM.out],below_drewN' HB2.out _⟩
     case measure=>simp [intOf];omega
    ·obtain rfl:j=zs.length:=by omega
     generalize tvL c es zs zs.length=y at *
     have HPL:=hid (plusS_any s0 y wr)
     generalize pl s0 y=pz at *
     go_wp2_with (go_at_call 127;refine HPL.out.mono ?_;rintro e w' ⟨rfl,rfl⟩)
     go_roundw
     case rel=>exact ⟨k+1,by omega,by go_num,by rw [HP.out],HB2.out⟩
     case measure=>simp [intOf];omega
  ·obtain rfl:k=ts.length:=by omega
   go_wp2
   go_ret
   exact ⟨rfl,HB.out⟩
theorem valueI_g (v:Int) (A:Option Addr) (cap:Nat) (ts:List Term') (Z:Option Addr) (cz:Nat) (zs:List Int) (w:World) (hT:TmsAt w A ts) (hok:PolyG v ts) (hZ:Ints w Z zs) (hl:(zs.length:Int)=v) :
  Calls Tryz.prog 64 #[poV v A ts.length cap,.slice Z zs.length cz] w fun e w'=>e=.returned (.int .i64 (pvL ts zs ts.length))∧Below w.heap.size w w':=by
 have hg:Below w.heap.size w (w.alloc (.cells #[.int .i64 v,.slice A ts.length cap] 86)):=by go_grown
 have HG:=hid hg
 have HT:=hid (hT.below hg);clear hT
 have HZ:=hid (hZ.below hg);clear hZ
 have HOK:=hid hok;clear hok
 have HL:=hid hl;clear hl
 have hsz:=HOK.out.1
 have hl12:zs.length≤12:=by have:=HL.out;omega
 have ht120:=hsz.2.2
 clear hsz hg
 obtain ⟨W0,hW0⟩:∃ W0,W0=(w.alloc (.cells #[.int .i64 v,.slice A ts.length cap] 86)):=⟨_,rfl⟩
 have HW0:=hid hW0
 rw [←hW0] at HT HZ HG
 clear hW0
 go_enter Tryz.func64,Tryz.ntmps64
 go_wp2
 rw [←HW0.out]
 go_loopw [5,14] (fun s i wr=>∃ (k:Nat),k≤ts.length∧i=.int .i64 (k:Int)∧s=.int .i64 (pvL ts zs k)∧Hid (Below W0.heap.size W0 wr)) (fun _ i _=>ts.length - (intOf i).toNat)
 case atStart=>exact ⟨0,by omega,by go_num,rfl,Below.refl _ _⟩
 case round=>
  obtain ⟨k,hk,rfl,rfl,HB⟩:=hrel
  by_cases hlt:k<ts.length
  ·obtain ⟨bt,ot,Ai,ca,rfl,_,hc,hc2,hi,_⟩:=(HT.out.below HB.out).at_ hlt
   have hp:=termOk_parts (HOK.out.2 _ (tmAt_mem hlt))
   have hel:(tmAt ts k).1.length=zs.length:=by have:=hp.1;have:=HL.out;omega
   have heo:=hp.2.2.2.1
   have hcb1:=hp.2.1
   have hcb2:=hp.2.2.1
   have hkl:(k:Int)<(ts.length:Int):=by omega
   have HP:Hid (pvL ts zs (k+1)=pl (pvL ts zs k) (tvL (tmAt ts k).2 (tmAt ts k).1 zs zs.length)):=by show _=_;rw [←hel];rfl
   rw [hel] at hc
   obtain ⟨es,hes⟩:∃ es,es=(tmAt ts k).1:=⟨_,rfl⟩
   rw [←hes] at HP hi heo hel
   have hsb:=pvL_bd ts zs k
   obtain ⟨s0,hs0⟩:∃ s0,s0=pvL ts zs k:=⟨_,rfl⟩
   rw [←hs0] at HP hsb ⊢
   generalize (tmAt ts k).2=c at *
   have hg2:Below wr.heap.size wr (wr.alloc (.cells #[.slice Ai zs.length ca,.int .i64 c] 173)):=by go_grown
   have HB2:=hid (bnext HB.out hg2)
   have HI:=hid (hi.below hg2)
   have HE:=hid heo
   have HEL:=hid hel
   have hsb0:=hsb.1
   have hsb1:=hsb.2
   have HCB:Hid (0≤c∧c≤1000002):=⟨by omega,hcb2⟩
   clear hp hi heo hel hes hs0 hsb hg2
   go_wp2
   go_loop [8,23] (fun x u=>∃ (j:Nat),j≤zs.length∧u=.int .i64 (j:Int)∧x=.int .i64 (tvL c es zs j)) (fun _ u=>zs.length - (intOf u).toNat)
   case atStart=>exact ⟨0,by omega,by go_num,rfl⟩
   case round=>
    obtain ⟨j,hj,rfl,rfl⟩:=hrel
    have htb:=tvL_bd HCB.out.1 HCB.out.2 es zs j
    have ht0:=htb.1
    have ht1:=htb.2
    clear htb
    by_cases hjl:j<zs.length
    ·obtain ⟨bz,oz,rfl,_,hcz⟩:=(HZ.out.below HB2.out).cfAt (by omega)
     obtain ⟨be,oe,rfl,_,hce⟩:=HI.out.cfAt (by have:=HEL.out;omega)
     have hz1:=hcz j hjl
     have he1:=hce j (by have:=HEL.out;omega)
     have hjl':(j:Int)<(zs.length:Int):=by omega
     have heb:=expsOk_bd HE.out j
     obtain ⟨m,hm⟩:∃ m:Nat,(m:Int)=cf es j:=⟨(cf es j).toNat,by omega⟩
     have HM:Hid (tvL c es zs (j+1)=tm (tvL c es zs j) (pw (cf zs j) m)):=by show _=_;rw [show m=(cf es j).toNat by omega];rfl
     have hm12:m≤12:=by omega
     rw [←hm] at he1
     clear hcz hce heb hm
     generalize cf zs j=x at *
     have HPW:=hid (fun wx=>power_any x m wx (by omega))
     have hpb:0≤pw x m∧pw x m≤1000002:=by unfold pw;omega
     have hp0:=hpb.1
     have hp1:=hpb.2
     generalize pw x m=pz at *
     generalize tvL c es zs j=y at *
     have hmb:=mul_bd ht0 ht1 hp0 hp1
     clear hpb
     go_wp2_with (go_at_call 136;refine (HPW.out _).mono ?_;rintro e w' ⟨rfl,rfl⟩)
     go_round
     case rel=>exact ⟨j+1,by omega,by go_num,by rw [HM.out];rfl⟩
     case measure=>simp [intOf];omega
    ·obtain rfl:j=zs.length:=by omega
     generalize tvL c es zs zs.length=y at *
     go_wp2
     go_roundw
     case rel=>exact ⟨k+1,by omega,by go_num,by rw [HP.out];rfl,HB2.out⟩
     case measure=>simp [intOf];omega
  ·obtain rfl:k=ts.length:=by omega
   go_wp2
   go_ret
   exact ⟨rfl,bnext HG.out HB.out⟩
theorem grid_g {u:Int} {ts:List Term'} (h:PolyG u ts) (hC:Canon ts) (hne:ts≠[]):∃ l,gridOk u.toNat l∧pvL ts l ts.length≠0:=by
 by_cases hx:∃ l,gridOk u.toNat l∧pvL ts l ts.length≠0
 ·exact hx
 exfalso
 have hz:∀ l,gridOk u.toNat l→pvL ts l ts.length=0:=fun l hl=>by
  by_cases e:pvL ts l ts.length=0
  ·exact e
  ·exact absurd ⟨l,hl,e⟩ hx
 have hL:LenT u.toNat ts:=fun t ht=>by have:=(termOk_parts (h.2 t ht)).1;omega
 have h1:=grid_zero u.toNat ts (fun t ht=>⟨hL t ht,fun k _=>expsOk_bd (termOk_parts (h.2 t ht)).2.2.2.1 k⟩) (fun zs hzs=>pvL_dvd hL (hz zs hzs))
 obtain ⟨t,r,rfl⟩:∃ t r,ts=t :: r:=by
  cases ts with
  | nil=>exact absurd rfl hne
  | cons t r=>exact ⟨t,r,rfl⟩
 have h2:=hC.cof_mem (List.mem_cons_self ..)
 have h3:=hC.coef t (List.mem_cons_self ..)
 have h4:=cof_sum (t :: r) t.1
 have h5:=h1 t.1
 omega
end
section
open Go.RowKit Plain
def ElG (w:World) (B:Nat) (x:Nd) (b o:Nat):Prop:=w.cell? ⟨b,o,none⟩=some (.int .i64 x.k)∧w.cell? ⟨b,o+1,none⟩=some (.int .i64 x.n)∧w.cell? ⟨b,o+2,none⟩=some (.int .i64 x.p)∧w.cell? ⟨b,o+3,none⟩=some (.int .i64 x.c) ∧
 ∃ K cap,w.cell? ⟨b,o+4,none⟩=some (.slice K x.ks.len cap)∧x.ks.len≤cap∧cap≤maxLen∧ExSl w B x.ks K
theorem ElG.only {w w':World} {B bv:Nat} {x:Nd} {b o:Nat} (h:ElG w B x b o) (ho:Only (fun q=>q=bv) w w') (hn:b≠bv) (hl:b<w.heap.size) (hB:B≤bv) (al:bv<w.heap.size):ElG w' B x b o:=by
 obtain ⟨h0,h1,h2,h3,K,cap,h4,hc,hm,hk⟩:=h
 exact ⟨(ho.cell (a:=⟨b,_,none⟩) hl hn).trans h0,(ho.cell (a:=⟨b,_,none⟩) hl hn).trans h1,(ho.cell (a:=⟨b,_,none⟩) hl hn).trans h2,(ho.cell (a:=⟨b,_,none⟩) hl hn).trans h3,K,cap,(ho.cell (a:=⟨b,_,none⟩) hl hn).trans h4,hc,hm,hk.below (only_below ho hB al)⟩
structure LsInG (w:World) (B:Nat) (S:Nat→Prop) (u:Int) (P:List Fn) (fn:Int) (bv:Nat) (es:Es) (bk ok cap:Nat) (A:Option Addr) (env:List (List Term')) (ecap:Nat):Prop where
 kids:∀ j x,es.get? j=some x→ElG w B x bk (ok+j*5)
 bn:bk≠bv
 bl:bk<w.heap.size
 kl:es.len≤cap
 km:cap≤maxLen
 envA:PEnv w S u A env
 el:env.length≤ecap
 em:ecap≤maxLen
 big:env.length+es.depth≤1000000
 size:es.size≤400
 form:∀ j y,es.get? j=some y→formed P fn env.length y=true
 f0:0≤fn
 f1:fn≤P.length
def AllPG (P:List Fn) (u:Int) (f:Nat):Prop:=∀ (es:Es) (env:List (List Term')) (s:Int) (t:Nat) (c0 fn:Int) (bk ok cap B:Nat) (S:Nat→Prop) (bv:Nat) (A PA:Option Addr) (ecap pcap:Nat) (w:World),EvIn w B bv 1 P PA pcap→SIn w B S bv u→Cells w bv 168 (hdP u P PA pcap++[.int .i64 s,.int .i64 c0])→(c0=0→s=(t:Int)∧t≤3000∧3001≤t+f) →
 LsInG w B S u P fn bv es bk ok cap A env ecap →
 Calls Tryz.prog 109 #[.pointer (some ⟨bv,0,none⟩),.slice (some ⟨bk,ok,none⟩) es.len cap,.slice A env.length ecap] w (PsPost S bv u es.len 168 (hdP u P PA pcap) (pvAC u P f c0 es env t) w)
theorem polyAllG_of (P:List Fn) (u:Int) (f:Nat) (IH:PolyC P u f):AllPG P u f:=by
 intro es env s t c0 fn bk ok cap B S bv A PA ecap pcap w hI hS hst hf hN
 obtain ⟨i0,hi,hz0,hz1,hz2⟩:=info_parts Tryz.infoPo
 have HIH:=hid IH;clear IH
 obtain ⟨R,hR⟩:∃ R,R=pvAC u P f c0 es env t:=⟨_,rfl⟩
 rw [←hR]
 have hM0:MidP u P f R es env [] s c0:=by rw [hR];exact MidP.start hf
 have HM0:=hid hM0
 clear hR hM0 hf
 have al:=hI.lt
 have hB:=hI.blow
 have HKS:Hid (∀ w',Only (fun q=>q=bv) w w'→∀ j x,es.get? j=some x→ElG w' B x bk (ok+j*5)):=fun w' ho j x hx=>(hN.kids j x hx).only ho hN.bn hN.bl hB al
 have hbn:=hN.bn
 have hbl:=hN.bl
 have hls:=Es.len_le_size es
 have hsz:=hN.size
 have hkl:=hN.kl
 have hkm:cap≤9223372036854775807:=by have:=hN.km;unfold maxLen at this;omega
 have HI:=hid hI
 have HSI:=hid hS
 have HN:=hid hN
 have HST:=hid hst
 clear hI hN hst hS
 go_enter Tryz.func109,Tryz.ntmps109
 go_wp2
 go_loopw [7,13] (fun o i wr=>∃ (j:Nat) (es':Es) (tss:List (List Term')) (g:Nat) (s' c':Int),i=.int .i64 (j:Int)∧Hid (o.ownBlock=some g∧w.heap.size≤g∧g<wr.heap.size)∧j+es'.len=es.len∧Hid (tss.length=j)∧Hid (es'.size≤es.size)∧Hid (∀ i,es'.get? i=es.get? (j+i)) ∧
  Hid (PRow wr w.heap.size S u o tss)∧Hid (Cells wr bv 168 (hdP u P PA pcap++[.int .i64 s',.int .i64 c']))∧Hid (Only (fun q=>q=bv) w wr)∧Hid (MidP u P f R es' env tss s' c')) (fun _ i _=>es.len - (intOf i).toNat)
 case atStart=>
  have hg:Below w.heap.size w (w.alloc (.cells #[] 86)):=by go_grown
  refine ⟨0,es,[],w.heap.size,s,c0,by go_num,⟨rfl,Nat.le_refl _,by simp⟩,by omega,rfl,Nat.le_refl _,fun i=>by rw [Nat.zero_add],PRow.start w S u,HST.out.next hg,Only.of_below hg,HM0.out⟩
 case round=>
  obtain ⟨j,es',tss,g,s',c',rfl,hG,hj,htl,hsz2,hget,HR,HS,HO,HM⟩:=hrel
  cases es' with
  | nil=>
   simp only [Es.len] at hj
   obtain rfl:j=es.len:=by omega
   obtain ⟨Av,cp,rfl,q1,q2,q3⟩:=HR.out.env (fun q hq=>HSI.out.lt q hq)
   rw [htl.out] at q1
   have htl2:=htl.out
   have HP:Hid (PsPost S bv u es.len 168 (hdP u P PA pcap) R w (.returned (.slice Av es.len cp)) wr):=⟨Av,cp,tss,s',c',rfl,htl2,q1,q2,q3,HS.out,HO.out,HM.out.end_⟩
   rw [htl2]
   clear q1 q2 q3 htl2
   go_wp2
   go_ret
   exact HP.out
  | cons kk m' p' c1 ks' r=>
   simp only [Es.len] at hj
   have hget0:es.get? j=some ⟨kk,m',p',c1,ks'⟩:=by have:=hget.out 0;rw [Nat.add_zero] at this;rw [←this];rfl
   obtain ⟨c0',c1',c2',c3',K',cap',c4',hc2,hcm2,hks2⟩:=HKS.out wr HO.out j _ hget0
   have hgetr:Hid (∀ i,r.get? i=es.get? (j+1+i)):=fun i=>by have:=hget.out (i+1);rw [show j+1+i=j+(i+1) by omega,←this];rfl
   have hrs:Hid (r.size≤es.size):=by have:=hsz2.out;simp only [Es.size] at this;show _≤_;omega
   have hbr:bk<wr.heap.size:=by have:=HO.out.size;omega
   have hoS:Only S w wr:=HO.out.sub fun q e=>by rw [e];exact HSI.out.bv
   have hNk:NdInP wr B (privS S g) u P fn ⟨kk,m',p',c1,ks'⟩ K' cap' A env ecap:=⟨hks2,hc2,hcm2,HN.out.envA.fresh hoS hG.out.2.1,HN.out.el,HN.out.em,by have:=HN.out.big;have:=Es.get?_depth hget0;show env.length+ks'.depth≤1000000;simp only at this;omega,by have:=HN.out.size;have:=Es.get?_size hget0;show ks'.size≤400;simp only at this;omega,HN.out.form j _ hget0,HN.out.f0,HN.out.f1⟩
   have hSI2:SIn wr B (privS S g) bv u:=HSI.out.fresh HO.out.size hG.out.2.1 hG.out.2.2 (by omega)
   have HNK:=hid hNk
   have HSI2:=hid hSI2
   clear hks2 hget0 hNk hget hsz2 hSI2 hoS
   go_wp2_with fail
   have hgw:Below wr.heap.size wr (wr.alloc (.cells #[.int .i64 kk,.int .i64 m',.int .i64 p',.int .i64 c1,.slice K' ks'.len cap'] 33)):=by go_grown
   have hbx:=Cells.new wr 33 [.int .i64 kk,.int .i64 m',.int .i64 p',.int .i64 c1,.slice K' ks'.len cap']
   have hkid:NdInP (wr.alloc (.cells #[.int .i64 kk,.int .i64 m',.int .i64 p',.int .i64 c1,.slice K' ks'.len cap'] 33)) B (privS S g) u P fn ⟨kk,m',p',c1,ks'⟩ K' cap' A env ecap:=⟨HNK.out.kids.below (hgw.mono (by have:=HO.out.size;omega)),HNK.out.kl,HNK.out.km,HNK.out.envA.only (Only.of_below hgw),HNK.out.el,HNK.out.em,HNK.out.big,HNK.out.size,HNK.out.form,HNK.out.f0,HNK.out.f1⟩
   refine (HIH.out ⟨kk,m',p',c1,ks'⟩ env s' s'.toNat c' fn K' cap' B (privS S g) bv A PA ecap pcap _ ((HI.out.only HO.out).only (Only.of_below hgw)) (HSI2.out.mono hgw.size) (HS.out.next hgw) HM.out.now hkid).mono ?_;rintro e w1 ⟨v,ts,s2,cc2,rfl,⟨Az,cz,rfl,hpz,hkz⟩,hS1,hO1,hres⟩
   have hO2:=(Only.of_below hgw).trans hO1
   have hs12:=hO2.size
   have HR1:=hid (HR.out.only HSI.out.bv al hO2)
   have HM1:=hid (HM.out.step hres)
   have HO1:=hid (HO.out.trans hO2)
   have HS1:=hid hS1
   have HPZ:=hid (And.intro hpz hkz)
   obtain ⟨ps,hG1,hps,hoks,hkp⟩:=HR1.out
   have hpl:ps.length=j:=by have:=congrArg List.length hps;rw [List.length_map,htl.out] at this;exact this
   have HG1:=hid hG1
   have HKP:=hid hkp
   have HOKS:=hid hoks
   have HPS:=hid hps
   have hw1:w.heap.size≤w1.heap.size:=HO1.out.size
   clear hgw hkid hpz hkz hS1 hO1 hO2 hres hG1 hps hoks hkp HR HM HO HS HNK c0' c1' c2' c3' c4' hbx
   obtain ⟨W1',hW1'⟩:∃ W,W=w1.alloc (.cells (poD u (ts,Az,cz)).toArray 86):=⟨_,rfl⟩
   have hb2:Below w1.heap.size w1 W1':=by rw [hW1'];go_grown
   have hC2:Cells W1' w1.heap.size 86 (poD u (ts,Az,cz)):=by rw [hW1'];exact Cells.new _ _ _
   have HOW:=hid (HG1.out.below hb2).own
   have HB2:=hid hb2
   have HC2:=hid hC2
   have HW1:=hid hW1'
   clear hb2 hC2 hW1'
   go_wp2_with (at_builtin;change wpList _ _ _ _ _ (w1.alloc (.cells (poD u (ts,Az,cz)).toArray 86));rw [←HW1.out];refine wpList_append_own_at _ rfl _ _ 162 rfl w.heap.size 86 i0 (.agg #[.int .i64 0,.slice none 0 0]) 2 32 Tryz.underlying162 hi hz0 hz1 hz2 rfl (by decide) _ _ _ rfl HOW.out ⟨w1.heap.size,0,none⟩ 1 1 (poD u (ts,Az,cz)) rfl rfl ?c1 ?c2 ?c3 ?c4 ?c5 ?_)
   case c1=>intro q z hz;rw [addr_add,Nat.zero_add];exact (HC2.out.cell q).trans hz
   case c2=>intro z hz;simp only [poD,List.mem_cons,List.not_mem_nil,or_false] at hz;rcases hz with rfl | rfl<;>rfl
   case c3=>simp only [List.length_map];unfold maxLen;omega
   case c4=>simp only [List.length_map];omega
   case c5=>have:=HB2.out.size;omega
   intro v2 w2 hown0 hg2 _ hat
   have hown:w2.ownsRow w.heap.size 86 2 v2 ((ps.map (poEl S u)).length+1) ((ps.map (poEl S u)).flatMap (·.1)++poD u (ts,Az,cz)):=by
    rw [List.length_map,hpl]
    exact hown0
   have hgl:=(HG1.out.lt hG.out.1)
   obtain ⟨hp2,hbl⟩:=PRow.push (p:=(ts,Az,cz)) HG1.out (by rw [HPS.out];exact HOKS.out) HKP.out hG.out.1 (Below.refl _ _) HPZ.out.1 HPZ.out.2 HB2.out hown hg2 hat
   rw [HPS.out] at hp2
   have hg3:∃ g3,v2.ownBlock=some g3∧w.heap.size≤g3∧g3<w2.heap.size:=by
    have hs2:=hg2.size
    have hs1:=HB2.out.size
    rcases hat with e | e
    ·exact ⟨g,e.trans hG.out.1,hgl.1,by omega⟩
    ·exact ⟨W1'.heap.size,e,by omega,(World.ownsRow.lt hown _ e).2⟩
   obtain ⟨g3,hg3⟩:=hg3
   have HG3:=hid hg3
   have HP2:=hid hp2
   have HS2:Hid (Cells w2 bv 168 (hdP u P PA pcap++[.int .i64 s2,.int .i64 cc2])):=(hbl.block bv al).trans HS1.out
   have HO2:Hid (Only (fun q=>q=bv) w w2):=⟨hbl.os.trans HO1.out.os,hbl.tape.trans HO1.out.tape,hbl.output.trans HO1.out.output,Nat.le_trans HO1.out.size hbl.size,fun q hq hn=>(hbl.block q hq).trans (HO1.out.block q hq hn)⟩
   have htl2:Hid ((tss++[ts]).length=j+1):=by show _=_;rw [List.length_append,htl.out];rfl
   clear hown hg2 hat hp2 hbl hg3 HG1 HKP HOKS HPS HOW HC2 HB2 HPZ hgl
   go_wp2
   go_roundw
   case rel=>exact ⟨j+1,r,tss++[ts],g3,s2,cc2,by go_num,HG3,by omega,htl2,hrs,hgetr,HP2,HS2,HO2,HM1⟩
   case measure=>simp [intOf];omega
theorem polyAllG_any (P:List Fn) (u:Int) (f:Nat):AllPG P u f:=polyAllG_of P u f (poly_any P u f)
end
section
open Go.RowKit Plain
def two (l r:Nd):Es:=.cons l.k l.n l.p l.c l.ks (.cons r.k r.n r.p r.c r.ks .nil)
theorem two_get {l r:Nd} {j:Nat} {x:Nd} (h:(two l r).get? j=some x):(j=0∧x=l)∨(j=1∧x=r):=by
 match j with
 | 0=>left;refine ⟨rfl, ?_⟩;simp only [two,Es.get?] at h;exact (Option.some.inj h).symm
 | 1=>right;refine ⟨rfl, ?_⟩;simp only [two,Es.get?] at h;exact (Option.some.inj h).symm
 | j+2=>simp [two,Es.get?] at h
noncomputable def gapPick (u:Int):Res (List (List Term'))→(Int×List Term')×Int
 | .err c=>((0,[]),c)
 | .ok tss _=>((u,nfT (tss.getD 0 []++sclT 1000002 (tss.getD 1 []))),0)
noncomputable def gapV (v:Int) (l r:Nd):(Int×List Term')×Int:=gapPick v (pvAll (pv v [] 3001) (unkL v v.toNat) (two l r) 0)
theorem gapPick_ok {u:Int} {P:List Fn} {es:Es} {env tss:List (List Term')} {s' c':Int} (h:ResIs (pvAC u P 3001 0 es env 0) tss s' c'):(c'=0→gapPick u (pvAll (pv u P 3001) env es 0)=((u,nfT (tss.getD 0 []++sclT 1000002 (tss.getD 1 []))),0))∧(c'≠0→gapPick u (pvAll (pv u P 3001) env es 0)=((0,[]),c')):=by
 refine ⟨fun hc=>?_,fun hc=>?_⟩
 ·obtain ⟨_,t1,_,_,_,h4⟩:=pvAC_next h hc
  rw [h4];rfl
 ·rw [pvAC_bad h hc rfl];rfl
theorem gap_poly {v:Int} {a b:List Term'} (h1:polyOk v a=true) (h2:polyOk v b=true):PolyG v (nfT (a++sclT 1000002 b))∧Canon (nfT (a++sclT 1000002 b)):=by
 have hb:=polyOk_scl (k:=1000002) h2 (by omega) (by omega)
 have hs:=polyOk_size h1
 have hl:=(bdAdd h1 hb).1
 refine ⟨⟨⟨hs.1,hs.2.1,by omega⟩,fun t ht=>?_⟩,nfT_canon _⟩
 obtain ⟨u,hu,e⟩:=(nfT_canon _).stems (nfT_cof _) ht
 have hc:=(nfT_canon _).coef t ht
 rcases List.mem_append.1 hu with h | h
 ·exact termOk_of_exps (polyOk_mem h1 h) (by rw [←e]) hc.1 hc.2
 ·exact termOk_of_exps (polyOk_mem hb h) (by rw [←e]) hc.1 hc.2
def GapOk (v:Int) (g:(Int×List Term')×Int):Prop:=g.2=0→g.1.1=v∧PolyG v g.1.2∧Canon g.1.2
theorem progOk_nil:progOk []=true:=rfl
theorem FnSl.nil (w:World) (B:Nat):FnSl w B [] none:=⟨0,0,fun h=>absurd h (by simp),trivial⟩
theorem side_depth {x:Nd} {v:Int} (h:sideOk x v=true):x.ks.depth≤59:=by
 unfold sideOk exprOk at h
 simp only [Bool.and_eq_true,decide_eq_true_eq] at h
 have h2:=h.1.1.1.2
 unfold Nd.depth at h2
 omega
theorem side_in {l r:Nd} {v:Int} (hl:sideOk l v=true) (hr:sideOk r v=true) (_v3:v≤3):(two l r).size≤400∧(two l r).depth≤400∧∀ j y,(two l r).get? j=some y→formed [] 0 v y=true:=by
 obtain ⟨a1,_,a3,_,_⟩:=sideOk_parts hl
 obtain ⟨b1,_,b3,_,_⟩:=sideOk_parts hr
 have hs:(two l r).size≤400:=by simp only [two,Es.size];omega
 refine ⟨hs, ?_,fun j y h=>?_⟩
 ·have d1:=side_depth hl
  have d2:=side_depth hr
  simp only [two,Es.depth]
  omega
 rcases two_get h with ⟨_,rfl⟩ | ⟨_,rfl⟩
 ·exact a3
 ·exact b3
theorem gapI (v:Int) (l r:Nd) (KL KR:Option Addr) (cl cr B:Nat) (w:World) (hL:ExSl w B l.ks KL) (hcl:l.ks.len≤cl) (hml:cl≤maxLen) (hR:ExSl w B r.ks KR) (hcr:r.ks.len≤cr) (hmr:cr≤maxLen) (hB:B≤w.heap.size) (v0:0≤v) (v3:v≤3) (hl:sideOk l v=true) (hr:sideOk r v=true) :
  Calls Tryz.prog 63 #[ruV v l KL cl r KR cr] w (fun e w'=>RetQi (gapV v l r).1 (gapV v l r).2 w e w'∧GapOk v (gapV v l r)):=by
 obtain ⟨W0,hW0⟩:∃ W0,W0=((w.alloc (.cells #[.int .i64 v,.int .i64 l.k,.int .i64 l.n,.int .i64 l.p,.int .i64 l.c,.slice KL l.ks.len cl,.int .i64 r.k,.int .i64 r.n,.int .i64 r.p,.int .i64 r.c,.slice KR r.ks.len cr] 35)).alloc (.cells #[.int .i64 0,.slice none 0 0] 86)).alloc (.cells #[.slice none 0 0,.int .i64 v,.int .i64 0,.int .i64 0] 168):=⟨_,rfl⟩
 have HB0:Hid (Below w.heap.size w W0):=by show Below _ _ _;rw [hW0];go_grown
 have HQ0:Hid (Cells W0 w.heap.size 35 [.int .i64 v,.int .i64 l.k,.int .i64 l.n,.int .i64 l.p,.int .i64 l.c,.slice KL l.ks.len cl,.int .i64 r.k,.int .i64 r.n,.int .i64 r.p,.int .i64 r.c,.slice KR r.ks.len cr]):=by
  show Cells _ _ _ _
  rw [hW0];exact (Cells.new w 35 _).next (by go_grown)
 have HR0:Hid (Cells W0 (w.heap.size+1) 86 [.int .i64 0,.slice none 0 0]):=by
  show Cells _ _ _ _
  rw [hW0]
  have:=(Cells.new (w.alloc (.cells #[.int .i64 v,.int .i64 l.k,.int .i64 l.n,.int .i64 l.p,.int .i64 l.c,.slice KL l.ks.len cl,.int .i64 r.k,.int .i64 r.n,.int .i64 r.p,.int .i64 r.c,.slice KR r.ks.len cr] 35)) 86 [.int .i64 0,.slice none 0 0]).next (w':=((w.alloc (.cells #[.int .i64 v,.int .i64 l.k,.int .i64 l.n,.int .i64 l.p,.int .i64 l.c,.slice KL l.ks.len cl,.int .i64 r.k,.int .i64 r.n,.int .i64 r.p,.int .i64 r.c,.slice KR r.ks.len cr] 35)).alloc (.cells #[.int .i64 0,.slice none 0 0] 86)).alloc (.cells #[.slice none 0 0,.int .i64 v,.int .i64 0,.int .i64 0] 168)) (by go_grown)
  simpa using this
 have HD0:Hid (Cells W0 (w.heap.size+2) 168 [.slice none 0 0,.int .i64 v,.int .i64 0,.int .i64 0]):=by
  show Cells _ _ _ _
  rw [hW0]
  have:=Cells.new ((w.alloc (.cells #[.int .i64 v,.int .i64 l.k,.int .i64 l.n,.int .i64 l.p,.int .i64 l.c,.slice KL l.ks.len cl,.int .i64 r.k,.int .i64 r.n,.int .i64 r.p,.int .i64 r.c,.slice KR r.ks.len cr] 35)).alloc (.cells #[.int .i64 0,.slice none 0 0] 86)) 168 [.slice none 0 0,.int .i64 v,.int .i64 0,.int .i64 0]
  simpa using this
 have HS0:Hid (W0.heap.size=w.heap.size+3):=by show _=_;rw [hW0];simp
 have HW0:=hid hW0
 have HLR:=hid (And.intro (hL.below (HB0.out.mono hB)) (hR.below (HB0.out.mono hB)))
 have HSD:=hid (And.intro hl hr)
 obtain ⟨gv,hgv⟩:∃ x,x=gapV v l r:=⟨_,rfl⟩
 rw [←hgv]
 have HGV:Hid (gv=gapPick v (pvAll (pv v [] 3001) (unkL v v.toNat) (two l r) 0)):=hgv
 clear hgv
 clear hL hR hl hr
 clear hW0
 go_enter Tryz.func63,Tryz.ntmps63
 go_upto_region 2 with fail
 rw [←HW0.out]
 have hbvW:w.heap.size+2<W0.heap.size:=HD0.out.lt
 have hv12:v≤12:=by omega
 have HEV:Hid (EvIn W0 w.heap.size (w.heap.size+2) 1 [] none 0):=⟨FnSl.nil _ _,Nat.le_refl _,Nat.zero_le _,by omega,hbvW,progOk_nil,by omega,by omega⟩
 have HSI:Hid (SIn W0 w.heap.size (fun q=>q≤w.heap.size+2) (w.heap.size+2) v):=⟨Nat.le_refl _,fun q e=>Nat.lt_of_le_of_lt e hbvW,trivial,v0,hv12⟩
 have HUK:Hid (∀ wx,Below W0.heap.size W0 wx→Calls Tryz.prog 110 #[.int .i64 v] wx fun e w'=>∃ A cp,e=.returned (.slice A v.toNat cp)∧Hid (v.toNat≤cp∧cp≤maxLen∧PEnv w' (fun q=>q≤w.heap.size+2) v A (unkL v v.toNat))∧Below wx.heap.size wx w'):=fun wx hb=>
  (unknowns_any v (fun q=>q≤w.heap.size+2) wx (fun q e=>by have e':q≤w.heap.size+2:=e;have:=hb.size;omega) v0 hv12).mono fun e w' ⟨A,cp,h1,h2,h3,h4,h5⟩=>⟨A,cp,h1,⟨h2,h3,h4⟩,h5⟩
 have HALL:Hid (∀ wx bk A3 c3,OB W0 wx (some bk) 33 [.int .i64 l.k,.int .i64 l.n,.int .i64 l.p,.int .i64 l.c,.slice KL l.ks.len cl,.int .i64 r.k,.int .i64 r.n,.int .i64 r.p,.int .i64 r.c,.slice KR r.ks.len cr]→(v.toNat≤c3∧c3≤maxLen∧PEnv wx (fun q=>q≤w.heap.size+2) v A3 (unkL v v.toNat))→Calls Tryz.prog 109 #[.pointer (some ⟨w.heap.size+2,0,none⟩),.slice (some ⟨bk,0,none⟩) 2 2,.slice A3 v.toNat c3] wx (PsPost (fun q=>q≤w.heap.size+2) (w.heap.size+2) v 2 168 (hdP v [] none 0) (pvAC v [] 3001 0 (two l r) (unkL v v.toNat) 0) wx)):=fun wx bk A3 c3 hob ⟨h1,h2,h3⟩=>by
  obtain ⟨g1,g2,g3⟩:=side_in HSD.out.1 HSD.out.2 v3
  obtain ⟨k1,k2⟩:=hob.box bk rfl
  have hO:Only (fun q=>q=w.heap.size+2) W0 wx:=Only.of_below hob.below
  have hz:=polyAllG_any [] v 3001 (two l r) (unkL v v.toNat) 0 0 0 0 bk 0 2 w.heap.size (fun q=>q≤w.heap.size+2) (w.heap.size+2) A3 none c3 0 wx (HEV.out.only hO) (HSI.out.mono hO.size) (HD0.out.next hob.below) (fun _=>⟨rfl,by omega,by omega⟩)
   ⟨fun j x hx=>by
    rcases two_get hx with ⟨rfl,rfl⟩ | ⟨rfl,rfl⟩
    ·exact ⟨(k2.cell 0).trans rfl,(k2.cell 1).trans rfl,(k2.cell 2).trans rfl,(k2.cell 3).trans rfl,KL,cl,(k2.cell 4).trans rfl,hcl,hml,(HLR.out.1.mono hB).below (hob.below.mono (by omega))⟩
    ·exact ⟨(k2.cell 5).trans rfl,(k2.cell 6).trans rfl,(k2.cell 7).trans rfl,(k2.cell 8).trans rfl,KR,cr,(k2.cell 9).trans rfl,hcr,hmr,(HLR.out.2.mono hB).below (hob.below.mono (by omega))⟩,
       by omega,k2.lt,Nat.le_refl _,by unfold maxLen;omega,h3,by rw [unkL_length];exact h1,h2,by rw [unkL_length];omega,g1,fun j y hy=>by rw [unkL_length,Int.toNat_of_nonneg v0];exact g3 j y hy,Int.le_refl _,by simp⟩
  rw [unkL_length] at hz
  exact hz
 have HRU:Hid (∀ wx,Only (fun q=>q=w.heap.size+2) W0 wx→wx.cell? ⟨w.heap.size,0,none⟩=some (.int .i64 v)∧wx.cell? ⟨w.heap.size,1,none⟩=some (.int .i64 l.k)∧wx.cell? ⟨w.heap.size,2,none⟩=some (.int .i64 l.n)∧wx.cell? ⟨w.heap.size,3,none⟩=some (.int .i64 l.p)∧wx.cell? ⟨w.heap.size,4,none⟩=some (.int .i64 l.c)∧wx.cell? ⟨w.heap.size,5,none⟩=some (.slice KL l.ks.len cl)∧wx.cell? ⟨w.heap.size,6,none⟩=some (.int .i64 r.k)∧wx.cell? ⟨w.heap.size,7,none⟩=some (.int .i64 r.n)∧wx.cell? ⟨w.heap.size,8,none⟩=some (.int .i64 r.p)∧wx.cell? ⟨w.heap.size,9,none⟩=some (.int .i64 r.c)∧wx.cell? ⟨w.heap.size,10,none⟩=some (.slice KR r.ks.len cr)):=fun wx ho=>by
  have h:=only_cells HQ0.out ho (by omega)
  exact ⟨(h.cell 0).trans rfl,(h.cell 1).trans rfl,(h.cell 2).trans rfl,(h.cell 3).trans rfl,(h.cell 4).trans rfl,(h.cell 5).trans rfl,(h.cell 6).trans rfl,(h.cell 7).trans rfl,(h.cell 8).trans rfl,(h.cell 9).trans rfl,(h.cell 10).trans rfl⟩
 go_cut [5] from 10 to 19 (fun s5 wc=>∃ (A4:Option Addr) (c4:Nat) (tss:List (List Term')) (s' c':Int),s5=.slice A4 2 c4∧Hid (tss.length=2∧2≤c4∧c4≤maxLen∧PEnv wc (fun q=>q≤w.heap.size+2) v A4 tss∧Cells wc (w.heap.size+2) 168 (hdP v [] none 0++[.int .i64 s',.int .i64 c'])∧Only (fun q=>q=w.heap.size+2) W0 wc∧ResIs (pvAC v [] 3001 0 (two l r) (unkL v v.toNat) 0) tss s' c'))
 case first=>
  go_region_held3 (fun wx=>wx.cell? ⟨w.heap.size,0,none⟩=some (.int .i64 v)∧wx.cell? ⟨w.heap.size,1,none⟩=some (.int .i64 l.k)∧wx.cell? ⟨w.heap.size,2,none⟩=some (.int .i64 l.n)∧wx.cell? ⟨w.heap.size,3,none⟩=some (.int .i64 l.p)∧wx.cell? ⟨w.heap.size,4,none⟩=some (.int .i64 l.c)∧wx.cell? ⟨w.heap.size,5,none⟩=some (.slice KL l.ks.len cl)∧wx.cell? ⟨w.heap.size,6,none⟩=some (.int .i64 r.k)∧wx.cell? ⟨w.heap.size,7,none⟩=some (.int .i64 r.n)∧wx.cell? ⟨w.heap.size,8,none⟩=some (.int .i64 r.p)∧wx.cell? ⟨w.heap.size,9,none⟩=some (.int .i64 r.c)∧wx.cell? ⟨w.heap.size,10,none⟩=some (.slice KR r.ks.len cr)) (first | exact HRU.out _ (Only.of_below (OB.below (OB.start W0 33 [.int .i64 l.k,.int .i64 l.n,.int .i64 l.p,.int .i64 l.c,.slice KL l.ks.len cl,.int .i64 r.k,.int .i64 r.n,.int .i64 r.p,.int .i64 r.c,.slice KR r.ks.len cr]))) | exact HRU.out _ (Only.of_below (OB.below (OB.start2 W0 33 [.int .i64 l.k,.int .i64 l.n,.int .i64 l.p,.int .i64 l.c,.slice KL l.ks.len cl,.int .i64 r.k,.int .i64 r.n,.int .i64 r.p,.int .i64 r.c,.slice KR r.ks.len cr]))) | exact HRU.out _ (Only.of_below (OB.below O3.out)) | exact HRU.out _ (Only.of_below (OB.below O3.out.al)) | exact HRU.out _ HO4.out)
   (first
    | (go_at_call 110;(with_reducible refine (HUK.out _ (OB.start W0 33 [.int .i64 l.k,.int .i64 l.n,.int .i64 l.p,.int .i64 l.c,.slice KL l.ks.len cl,.int .i64 r.k,.int .i64 r.n,.int .i64 r.p,.int .i64 r.c,.slice KR r.ks.len cr]).below).mono ?_);rintro e w3 ⟨A3,c3,rfl,hE3,hb3⟩;have O3:=hid (OB.next (OB.start W0 33 [.int .i64 l.k,.int .i64 l.n,.int .i64 l.p,.int .i64 l.c,.slice KL l.ks.len cl,.int .i64 r.k,.int .i64 r.n,.int .i64 r.p,.int .i64 r.c,.slice KR r.ks.len cr]) hb3);clear hb3)
    | (go_at_call 110;(with_reducible refine (HUK.out _ (OB.start2 W0 33 [.int .i64 l.k,.int .i64 l.n,.int .i64 l.p,.int .i64 l.c,.slice KL l.ks.len cl,.int .i64 r.k,.int .i64 r.n,.int .i64 r.p,.int .i64 r.c,.slice KR r.ks.len cr]).below).mono ?_);rintro e w3 ⟨A3,c3,rfl,hE3,hb3⟩;have O3:=hid (OB.next (OB.start2 W0 33 [.int .i64 l.k,.int .i64 l.n,.int .i64 l.p,.int .i64 l.c,.slice KL l.ks.len cl,.int .i64 r.k,.int .i64 r.n,.int .i64 r.p,.int .i64 r.c,.slice KR r.ks.len cr]) hb3);clear hb3)
    | (go_at_call 109;(with_reducible refine (HALL.out _ _ _ _ O3.out hE3.out).mono ?_);rintro e w4 ⟨A4,c4,tss,s',c',rfl,q1,q2,q3,q4,q5,q6,q7⟩;have HO4:=hid (Only.trans (Only.of_below O3.out.below) q6);have HPO:=hid (And.intro q1 (And.intro q2 (And.intro q3 (And.intro q4 (And.intro q5 q7)))));clear q1 q2 q3 q4 q5 q6 q7)
    | (go_at_call 109;(with_reducible refine (HALL.out _ _ _ _ O3.out.al ⟨hE3.out.1,hE3.out.2.1,hE3.out.2.2.only (Only.of_below ((Below.refl _ _).alloc (Nat.le_refl _) _))⟩).mono ?_);rintro e w4 ⟨A4,c4,tss,s',c',rfl,q1,q2,q3,q4,q5,q6,q7⟩;have HO4:=hid (Only.trans (Only.of_below O3.out.al.below) q6);have HPO:=hid (And.intro q1 (And.intro q2 (And.intro q3 (And.intro q4 (And.intro q5 q7)))));clear q1 q2 q3 q4 q5 q6 q7))
  all_goals
   go_wp2_with fail
   go_meet
   case rel=>exact ⟨_,_,_,_,_,rfl,HPO.out.1,HPO.out.2.1,HPO.out.2.2.1,HPO.out.2.2.2.1,HPO.out.2.2.2.2.1,HO4.out,HPO.out.2.2.2.2.2⟩
 case rest=>
 obtain ⟨A4,c4,tss,s',c',rfl,HP4⟩:=hcut
 obtain ⟨w4,rfl⟩:∃ x,x=wc:=⟨_,rfl⟩
 obtain ⟨hl4,_,_,hE4,hS4,hO4,hres⟩:=HP4.out
 have HBW4:Hid (Below w.heap.size w w4):=HB0.out.trans (hO4.below (by have:=HS0.out;omega) (fun q e=>by omega))
 have HR4:=hid (only_cells HR0.out hO4 (by omega))
 have HQ4:=hid (only_cells HQ0.out hO4 (by omega))
 have HPK:=hid (gapPick_ok hres)
 have hbv4:w.heap.size+2<w4.heap.size:=hS4.lt
 have k3:w4.cell? ⟨w.heap.size+2,3,none⟩=some (.int .i64 c'):=by rw [hS4.cell];rfl
 have hlt4:w.heap.size+1<w4.heap.size:=HR4.out.lt
 have HE4:=hid hE4
 have HL4:=hid hl4
 clear hE4 hS4 hO4 hres hl4 HP4 HRU HALL HUK HEV HSI
 by_cases hcc:c'=0
 ·subst hcc
  have HPV:=hid (HGV.out.trans (HPK.out.1 rfl))
  obtain ⟨b4,o4,Aa,ca,Ab,cb,rfl,hb4,hPa,hoa,hsec,hcell⟩:=HE4.out.two (by rw [HL4.out];omega)
  obtain ⟨hPb,hob⟩:=hsec (by rw [HL4.out];omega)
  have HCELL:Hid (∀ w',OnlyH (fun q=>q≤w.heap.size+2) w4 w'→w'.cell? ⟨b4,o4,none⟩=some (.int .i64 v)∧w'.cell? ⟨b4,o4+1,none⟩=some (.slice Aa (tss.getD 0 []).length ca)∧w'.cell? ⟨b4,o4+2,none⟩=some (.int .i64 v)∧w'.cell? ⟨b4,o4+2+1,none⟩=some (.slice Ab (tss.getD 1 []).length cb)):=fun w' ho=>⟨(hcell w' ho).1,(hcell w' ho).2.1,(hcell w' ho).2.2 (by rw [HL4.out];omega)⟩
  have HPA:=hid (And.intro hPa hoa)
  have HPB:=hid (And.intro hPb hob)
  clear hPa hoa hPb hob hsec hcell HPK
  obtain ⟨za,hza⟩:∃ z,z=tss.getD 0 []:=⟨_,rfl⟩
  obtain ⟨zb,hzb⟩:∃ z,z=tss.getD 1 []:=⟨_,rfl⟩
  rw [←hza] at HPA HCELL HPV
  rw [←hzb] at HPB HCELL HPV
  clear hza hzb HE4 HL4
  go_wp2_with fail
  have hd:Below w4.heap.size w4 w4.drew:=(Below.refl _ _).drew
  have HK4:Hid (∀ wx,Below w4.heap.size w4 wx→wx.cell? ⟨w.heap.size,0,none⟩=some (.int .i64 v)∧wx.cell? ⟨b4,o4,none⟩=some (.int .i64 v)∧wx.cell? ⟨b4,o4+1,none⟩=some (.slice Aa za.length ca)∧wx.cell? ⟨b4,o4+2,none⟩=some (.int .i64 v)∧wx.cell? ⟨b4,o4+2+1,none⟩=some (.slice Ab zb.length cb)):=fun wx hb=>⟨((HQ4.out.next hb).cell 0).trans rfl,HCELL.out wx (Only.of_below hb).h⟩
  obtain ⟨na,hna⟩:∃ n,n=za.length:=⟨_,rfl⟩
  obtain ⟨nb,hnb⟩:∃ n,n=zb.length:=⟨_,rfl⟩
  have HMO:=hid (minusOne_any v w4.drew v0 hv12)
  have HNA:=hid (And.intro hna hnb)
  clear hna hnb
  refine RegE.start (S:=fun wx=>wx.cell? ⟨w.heap.size,0,none⟩=some (.int .i64 v)∧wx.cell? ⟨b4,o4,none⟩=some (.int .i64 v)∧wx.cell? ⟨b4,o4+1,none⟩=some (.slice Aa na ca)∧wx.cell? ⟨b4,o4+2,none⟩=some (.int .i64 v)∧wx.cell? ⟨b4,o4+2+1,none⟩=some (.slice Ab nb cb)) 12 (by kernel_rfl) (by kernel_rfl) ?Sa0 (fun hHeld hB=>?_)
  case Sa0=>((try dsimp only);have h1:=HK4.out _ hd;rw [←HNA.out.1,←HNA.out.2] at h1;exact h1)
  refine RegE.takeL (S:=fun wx=>wx.cell? ⟨w.heap.size,0,none⟩=some (.int .i64 v)∧wx.cell? ⟨b4,o4,none⟩=some (.int .i64 v)∧wx.cell? ⟨b4,o4+1,none⟩=some (.slice Aa na ca)∧wx.cell? ⟨b4,o4+2,none⟩=some (.int .i64 v)∧wx.cell? ⟨b4,o4+2+1,none⟩=some (.slice Ab nb cb)) (i:=0) (v:=?va0) hB rfl (by decide) (by kernel_rfl) (by kernel_rfl) (fun _ _ _ h=>h) (Or.inl ⟨by rfl, ?ya0⟩) hHeld ?ra0
  case ya0=>((intro w hSw;(try dsimp only at hSw);go_simp)<;>with_reducible rfl)
  (try simp only [Act.put,List.setIfInBounds_toArray,List.set_cons_zero,List.set_cons_succ])
  refine RegE.takeL (S:=fun wx=>wx.cell? ⟨w.heap.size,0,none⟩=some (.int .i64 v)∧wx.cell? ⟨b4,o4,none⟩=some (.int .i64 v)∧wx.cell? ⟨b4,o4+1,none⟩=some (.slice Aa na ca)∧wx.cell? ⟨b4,o4+2,none⟩=some (.int .i64 v)∧wx.cell? ⟨b4,o4+2+1,none⟩=some (.slice Ab nb cb)) (i:=1) (v:=?va1) hB rfl (by decide) (by kernel_rfl) (by kernel_rfl) (fun _ _ _ h=>h) (Or.inl ⟨by rfl, ?ya1⟩) hHeld ?ra1
  case ya1=>((intro w hSw;(try dsimp only at hSw);go_simp)<;>with_reducible rfl)
  (try simp only [Act.put,List.setIfInBounds_toArray,List.set_cons_zero,List.set_cons_succ])
  refine RegE.takeL (S:=fun wx=>wx.cell? ⟨w.heap.size,0,none⟩=some (.int .i64 v)∧wx.cell? ⟨b4,o4,none⟩=some (.int .i64 v)∧wx.cell? ⟨b4,o4+1,none⟩=some (.slice Aa na ca)∧wx.cell? ⟨b4,o4+2,none⟩=some (.int .i64 v)∧wx.cell? ⟨b4,o4+2+1,none⟩=some (.slice Ab nb cb)) (i:=2) (v:=?va2) hB rfl (by decide) (by kernel_rfl) (by kernel_rfl) (fun _ _ _ h=>h) (Or.inl ⟨by rfl, ?ya2⟩) hHeld ?ra2
  case ya2=>((intro w hSw;(try dsimp only at hSw);go_simp)<;>with_reducible rfl)
  (try simp only [Act.put,List.setIfInBounds_toArray,List.set_cons_zero,List.set_cons_succ])
  refine RegE.takeL (S:=fun wx=>wx.cell? ⟨w.heap.size,0,none⟩=some (.int .i64 v)∧wx.cell? ⟨b4,o4,none⟩=some (.int .i64 v)∧wx.cell? ⟨b4,o4+1,none⟩=some (.slice Aa na ca)∧wx.cell? ⟨b4,o4+2,none⟩=some (.int .i64 v)∧wx.cell? ⟨b4,o4+2+1,none⟩=some (.slice Ab nb cb)) (i:=3) (v:=?va3) hB rfl (by decide) (by kernel_rfl) (by kernel_rfl) (fun _ _ _ h=>h) (Or.inl ⟨by rfl, ?ya3⟩) hHeld ?ra3
  case ya3=>((intro w hSw;(try dsimp only at hSw);go_simp)<;>with_reducible rfl)
  (try simp only [Act.put,List.setIfInBounds_toArray,List.set_cons_zero,List.set_cons_succ])
  refine RegE.takeL (S:=fun wx=>wx.cell? ⟨w.heap.size,0,none⟩=some (.int .i64 v)∧wx.cell? ⟨b4,o4,none⟩=some (.int .i64 v)∧wx.cell? ⟨b4,o4+1,none⟩=some (.slice Aa na ca)∧wx.cell? ⟨b4,o4+2,none⟩=some (.int .i64 v)∧wx.cell? ⟨b4,o4+2+1,none⟩=some (.slice Ab nb cb)) (i:=4) (v:=?va4) hB rfl (by decide) (by kernel_rfl) (by kernel_rfl) (fun _ _ _ h=>h) (Or.inl ⟨by rfl, ?ya4⟩) hHeld ?ra4
  case ya4=>((intro w hSw;(try dsimp only at hSw);go_simp)<;>with_reducible rfl)
  (try simp only [Act.put,List.setIfInBounds_toArray,List.set_cons_zero,List.set_cons_succ])
  refine RegE.takeL (S:=fun wx=>wx.cell? ⟨w.heap.size,0,none⟩=some (.int .i64 v)∧wx.cell? ⟨b4,o4,none⟩=some (.int .i64 v)∧wx.cell? ⟨b4,o4+1,none⟩=some (.slice Aa na ca)∧wx.cell? ⟨b4,o4+2,none⟩=some (.int .i64 v)∧wx.cell? ⟨b4,o4+2+1,none⟩=some (.slice Ab nb cb)) (i:=5) (v:=?va5) hB rfl (by decide) (by kernel_rfl) (by kernel_rfl) (fun _ _ _ h=>h) (Or.inl ⟨by rfl, ?ya5⟩) hHeld ?ra5
  case ya5=>((intro w hSw;(try dsimp only at hSw);go_simp)<;>with_reducible rfl)
  (try simp only [Act.put,List.setIfInBounds_toArray,List.set_cons_zero,List.set_cons_succ])
  refine RegE.takeL (S:=fun wx=>wx.cell? ⟨w.heap.size,0,none⟩=some (.int .i64 v)∧wx.cell? ⟨b4,o4,none⟩=some (.int .i64 v)∧wx.cell? ⟨b4,o4+1,none⟩=some (.slice Aa na ca)∧wx.cell? ⟨b4,o4+2,none⟩=some (.int .i64 v)∧wx.cell? ⟨b4,o4+2+1,none⟩=some (.slice Ab nb cb)) (i:=6) (v:=?va6) hB rfl (by decide) (by kernel_rfl) (by kernel_rfl) (fun _ _ _ h=>h) (Or.inl ⟨by rfl, ?ya6⟩) hHeld ?ra6
  case ya6=>((intro w hSw;(try dsimp only at hSw);go_simp)<;>with_reducible rfl)
  (try simp only [Act.put,List.setIfInBounds_toArray,List.set_cons_zero,List.set_cons_succ])
  refine RegE.takeL (S:=fun wx=>wx.cell? ⟨w.heap.size,0,none⟩=some (.int .i64 v)∧wx.cell? ⟨b4,o4,none⟩=some (.int .i64 v)∧wx.cell? ⟨b4,o4+1,none⟩=some (.slice Aa na ca)∧wx.cell? ⟨b4,o4+2,none⟩=some (.int .i64 v)∧wx.cell? ⟨b4,o4+2+1,none⟩=some (.slice Ab nb cb)) (i:=7) (v:=?va7) hB rfl (by decide) (by kernel_rfl) (by kernel_rfl) (fun _ _ _ h=>h) (Or.inl ⟨by rfl, ?ya7⟩) hHeld ?ra7
  case ya7=>((intro w hSw;(try dsimp only at hSw);go_simp)<;>with_reducible rfl)
  (try simp only [Act.put,List.setIfInBounds_toArray,List.set_cons_zero,List.set_cons_succ])
  refine RegE.stepL (i:=8) rfl (by decide) (by kernel_rfl) (fun K hK=>?_)
  go_simp
  go_at_call 135
  refine HMO.out.mono ?_
  rintro e w5 ⟨Am,cm,rfl,hPm,hb5⟩
  have hb45:Below w4.heap.size w4 w5:=hd.trans (hb5.mono (Nat.le_refl _))
  have HTK:=hid (tkC (ca:=cb) (cb:=cm) ((HPB.out.1.only (Only.of_below hb45)).now) ((hPm (fun q=>q≤w.heap.size+2) (fun q e=>Nat.lt_of_le_of_lt e hbv4)).now) HPB.out.2 (zeroE_ok v0 hv12) (by omega) (by omega) 1 (show 1=(constT v 1000002).length by rw [constT_one (by omega)];rfl))
  rw [←HNA.out.2] at HTK
  refine hK.out _ _ ?Sa8 (fun hHeldN=>?_)
  case Sa8=>((try dsimp only);have h1:=HK4.out _ hb45;rw [←HNA.out.1,←HNA.out.2] at h1;exact h1)
  clear hK K hHeld
  have hHeld:=hHeldN
  clear hHeldN
  (try simp only [Act.put,List.setIfInBounds_toArray,List.set_cons_zero,List.set_cons_succ])
  refine RegE.stepL (i:=9) rfl (by decide) (by kernel_rfl) (fun K hK=>?_)
  go_simp
  go_at_call 134
  refine HTK.out.mono ?_
  rintro e w6 ⟨A5,c5,rfl,hR6,hb6⟩
  have hb46:Below w4.heap.size w4 w6:=hb45.trans (hb6.mono hb45.size)
  have hosc:=polyOk_scl (k:=1000002) HPB.out.2 (by omega) (by omega)
  have l1:=(polyOk_size HPA.out.2).2.2
  have l2:=(polyOk_size hosc).2.2
  have HPL:=hid (polyPlus_any v v Aa A5 ca c5 v.toNat za (sclT 1000002 zb) w6 ((HPA.out.1.only (Only.of_below hb46)).now) (regTms hR6 (polyOk_totT hosc)) (by omega) (by omega) (polyOk_len' HPA.out.2) (polyOk_len' hosc) (by omega))
  rw [←HNA.out.1] at HPL
  clear l1 l2 hosc
  obtain ⟨R,hR⟩:∃ R,R=nfT (za++sclT 1000002 zb):=⟨_,rfl⟩
  have hgk:=gap_poly HPA.out.2 HPB.out.2
  rw [←hR] at HPL HPV hgk
  have HGK:=hid hgk
  clear hgk
  clear hR
  generalize (sclT 1000002 zb).length=n5 at *
  refine hK.out _ _ ?Sa9 (fun hHeldN=>?_)
  case Sa9=>((try dsimp only);have h1:=HK4.out _ hb46;rw [←HNA.out.1,←HNA.out.2] at h1;exact h1)
  clear hK K hHeld
  have hHeld:=hHeldN
  clear hHeldN
  (try simp only [Act.put,List.setIfInBounds_toArray,List.set_cons_zero,List.set_cons_succ])
  refine RegE.stepL (i:=10) rfl (by decide) (by kernel_rfl) (fun K hK=>?_)
  go_simp
  go_at_call 133
  refine HPL.out.mono ?_
  rintro e w7 ⟨A6,c6,rfl,hR7,hb7⟩
  have hb47:Below w4.heap.size w4 w7:=hb46.trans (hb7.mono hb46.size)
  have hr7:=HR4.out.next hb47
  refine hK.out _ _ ?Sa10 (fun hHeldN=>?_)
  case Sa10=>((try dsimp only);have h1:=HK4.out _ hb47;rw [←HNA.out.1,←HNA.out.2] at h1;exact h1)
  clear hK K hHeld
  have hHeld:=hHeldN
  clear hHeldN
  (try simp only [Act.put,List.setIfInBounds_toArray,List.set_cons_zero,List.set_cons_succ])
  have y0:w7.cell? ⟨w.heap.size+1,0,none⟩=some (.int .i64 0):=by rw [hr7.cell];rfl
  have y1:w7.cell? ⟨w.heap.size+1,1,none⟩=some (.slice none 0 0):=by rw [hr7.cell];rfl
  have f0:w7.frozen? ⟨w.heap.size+1,0,none⟩=false:=hr7.frozen _
  have f1:w7.frozen? ⟨w.heap.size+1,1,none⟩=false:=hr7.frozen _
  have hD1:=hr7.set_ 0 (.int .i64 v)
  have hD2:=hD1.set_ 1 (.slice A6 R.length c6)
  have z0:=hD1.cell 0
  have z1:=hD2.cell 1
  simp only [List.set_cons_zero,List.set_cons_succ,List.getElem?_cons_zero,List.getElem?_cons_succ] at z0 z1
  clear hD1 hD2
  have hk7:((w7.setCell ⟨w.heap.size+1,0,none⟩ (.int .i64 v)).setCell ⟨w.heap.size+1,1,none⟩ (.slice A6 R.length c6)).cell? ⟨w.heap.size,0,none⟩=some (.int .i64 v)∧((w7.setCell ⟨w.heap.size+1,0,none⟩ (.int .i64 v)).setCell ⟨w.heap.size+1,1,none⟩ (.slice A6 R.length c6)).cell? ⟨b4,o4,none⟩=some (.int .i64 v)∧((w7.setCell ⟨w.heap.size+1,0,none⟩ (.int .i64 v)).setCell ⟨w.heap.size+1,1,none⟩ (.slice A6 R.length c6)).cell? ⟨b4,o4+1,none⟩=some (.slice Aa na ca)∧((w7.setCell ⟨w.heap.size+1,0,none⟩ (.int .i64 v)).setCell ⟨w.heap.size+1,1,none⟩ (.slice A6 R.length c6)).cell? ⟨b4,o4+2,none⟩=some (.int .i64 v)∧((w7.setCell ⟨w.heap.size+1,0,none⟩ (.int .i64 v)).setCell ⟨w.heap.size+1,1,none⟩ (.slice A6 R.length c6)).cell? ⟨b4,o4+2+1,none⟩=some (.slice Ab nb cb):=by
   have hOx:OnlyH (fun q=>q≤w.heap.size+2) w4 ((w7.setCell ⟨w.heap.size+1,0,none⟩ (.int .i64 v)).setCell ⟨w.heap.size+1,1,none⟩ (.slice A6 R.length c6)):=⟨Nat.le_trans hb47.size (by simp [World.setCell]),fun q hq hn=>((Below.heap_setCell _ _ _ _ (fun e=>hn (by have e':q=w.heap.size+1:=e;omega))).trans (Below.heap_setCell _ _ _ _ (fun e=>hn (by have e':q=w.heap.size+1:=e;omega)))).trans (hb47.block q hq)⟩
   have h1:=HCELL.out _ hOx
   rw [←HNA.out.1,←HNA.out.2] at h1
   have e1:¬ (w.heap.size=w.heap.size+1):=by omega
   refine ⟨?_,h1⟩
   rw [World.cell?_setCell_other _ _ _ _ (fun e=>e1 (congrArg Addr.block e).symm),World.cell?_setCell_other _ _ _ _ (fun e=>e1 (congrArg Addr.block e).symm)]
   exact ((HQ4.out.next hb47).cell 0).trans rfl
  refine RegE.stepL (i:=11) rfl (by decide) (by kernel_rfl) (fun K hK=>?_)
  go_simp
  refine hK.out _ _ ?Sa11 (fun hHeldN=>?_)
  case Sa11=>((try dsimp only);exact hk7)
  clear hK K hHeld
  have hHeld:=hHeldN
  clear hHeldN
  (try simp only [Act.put,List.setIfInBounds_toArray,List.set_cons_zero,List.set_cons_succ])
  refine RegE.lastL rfl (by kernel_rfl) (by kernel_rfl) (fun K hK=>?_)
  go_simp
  refine hK.out _ _ ?_
  clear hK K
  have HRT:=hid hR7
  have HBF:=hid (HBW4.out.trans (hb47.mono HBW4.out.size))
  have hlo:w.heap.size+1<w6.heap.size:=by have:=hb46.size;omega
  clear hR7 hb45 hb46 hb47 hb5 hb6 hb7 hr7 hk7 hR6 hPm HPL HTK HMO
  go_wp2
  refine bodyPost_ret (v:=.tuple #[poV v A6 R.length c6,.int .i64 0]) (by simp [results,Tryz.results63,go_sem,z0,z1]) rfl ?_
  rw [HPV.out]
  exact ⟨retQ HBF.out HRT.out hlo _ _,fun _=>⟨rfl,HGK.out⟩⟩
 ·have HPV:=hid (HGV.out.trans (HPK.out.2 hcc))
  have hcb:(c' != 0)=true:=by simpa using hcc
  clear hcc
  go_wp2_with fail
  have hrD:Cells w4.drew (w.heap.size+1) 86 [.int .i64 0,.slice none 0 0]:=HR4.out.drewN 1
  have HS9:Hid (w4.drew.cell? ⟨w.heap.size+2,3,none⟩=some (.int .i64 c')):=k3
  have y0:w4.drew.cell? ⟨w.heap.size+1,0,none⟩=some (.int .i64 0):=by rw [hrD.cell];rfl
  have y1:w4.drew.cell? ⟨w.heap.size+1,1,none⟩=some (.slice none 0 0):=by rw [hrD.cell];rfl
  have f0:w4.drew.frozen? ⟨w.heap.size+1,0,none⟩=false:=hrD.frozen _
  have f1:w4.drew.frozen? ⟨w.heap.size+1,1,none⟩=false:=hrD.frozen _
  have hD1:=hrD.set_ 0 (.int .i64 0)
  have hD2:=hD1.set_ 1 (.slice none 0 0)
  have z0:=hD1.cell 0
  have z1:=hD2.cell 1
  simp only [List.set_cons_zero,List.set_cons_succ,List.getElem?_cons_zero,List.getElem?_cons_succ] at z0 z1
  clear hD1 hD2
  have hk3:((w4.drew.setCell ⟨w.heap.size+1,0,none⟩ (.int .i64 0)).setCell ⟨w.heap.size+1,1,none⟩ (.slice none 0 0)).cell? ⟨w.heap.size+2,3,none⟩=some (.int .i64 c'):=by
   have e1:¬ (w.heap.size+2=w.heap.size+1):=by omega
   rw [World.cell?_setCell_other _ _ _ _ (fun e=>e1 (congrArg Addr.block e).symm),World.cell?_setCell_other _ _ _ _ (fun e=>e1 (congrArg Addr.block e).symm)];exact k3
  have HBF:Hid (Below w.heap.size w w4.drew):=HBW4.out.drew
  refine RegE.start (S:=fun wx=>wx.cell? ⟨w.heap.size+2,3,none⟩=some (.int .i64 c')) 6 (by kernel_rfl) (by kernel_rfl) ?Sd0 (fun hHeld hB=>?_)
  case Sd0=>((try dsimp only);exact HS9.out)
  have hlt5:w.heap.size+1<w4.drew.heap.size:=hlt4
  clear HS9
  generalize w4.drew=W5 at *
  refine RegE.takeL (S:=fun wx=>wx.cell? ⟨w.heap.size+2,3,none⟩=some (.int .i64 c')) (i:=0) (v:=?vd0) hB rfl (by decide) (by kernel_rfl) (by kernel_rfl) (fun _ _ _ h=>h) (Or.inl ⟨by rfl, ?yd0⟩) hHeld ?rd0
  case yd0=>((intro w hSw;(try dsimp only at hSw);go_simp)<;>with_reducible rfl)
  (try simp only [Act.put,List.setIfInBounds_toArray,List.set_cons_zero,List.set_cons_succ])
  refine RegE.takeL (S:=fun wx=>wx.cell? ⟨w.heap.size+2,3,none⟩=some (.int .i64 c')) (i:=1) (v:=?vd1) hB rfl (by decide) (by kernel_rfl) (by kernel_rfl) (fun _ _ _ h=>h) (Or.inl ⟨by rfl, ?yd1⟩) hHeld ?rd1
  case yd1=>((intro w hSw;(try dsimp only at hSw);go_simp)<;>with_reducible rfl)
  (try simp only [Act.put,List.setIfInBounds_toArray,List.set_cons_zero,List.set_cons_succ])
  refine RegE.takeL (S:=fun wx=>wx.cell? ⟨w.heap.size+2,3,none⟩=some (.int .i64 c')) (i:=2) (v:=?vd2) hB rfl (by decide) (by kernel_rfl) (by kernel_rfl) (fun _ _ _ h=>h) (Or.inl ⟨by rfl, ?yd2⟩) hHeld ?rd2
  case yd2=>((intro w hSw;(try dsimp only at hSw);go_simp)<;>with_reducible rfl)
  (try simp only [Act.put,List.setIfInBounds_toArray,List.set_cons_zero,List.set_cons_succ])
  refine RegE.takeL (S:=fun wx=>wx.cell? ⟨w.heap.size+2,3,none⟩=some (.int .i64 c')) (i:=3) (v:=?vd3) hB rfl (by decide) (by kernel_rfl) (by kernel_rfl) (fun _ _ _ h=>h) (Or.inl ⟨by rfl, ?yd3⟩) hHeld ?rd3
  case yd3=>((intro w hSw;(try dsimp only at hSw);go_simp)<;>with_reducible rfl)
  (try simp only [Act.put,List.setIfInBounds_toArray,List.set_cons_zero,List.set_cons_succ])
  refine RegE.takeL (S:=fun wx=>wx.cell? ⟨w.heap.size+2,3,none⟩=some (.int .i64 c')) (i:=4) (v:=?vd4) hB rfl (by decide) (by kernel_rfl) (by kernel_rfl) (fun _ _ _ h=>h) (Or.inl ⟨by rfl, ?yd4⟩) hHeld ?rd4
  case yd4=>((intro w hSw;(try dsimp only at hSw);go_simp)<;>with_reducible rfl)
  (try simp only [Act.put,List.setIfInBounds_toArray,List.set_cons_zero,List.set_cons_succ])
  refine RegE.stepL (i:=5) rfl (by decide) (by kernel_rfl) (fun K hK=>?_)
  go_simp
  refine hK.out _ _ ?Sd5 (fun hHeldN=>?_)
  case Sd5=>((try dsimp only);exact hk3)
  clear hK K hHeld
  have hHeld:=hHeldN
  clear hHeldN
  (try simp only [Act.put,List.setIfInBounds_toArray,List.set_cons_zero,List.set_cons_succ])
  refine RegE.lastL rfl (by kernel_rfl) (by kernel_rfl) (fun K hK=>?_)
  go_simp
  refine hK.out _ _ ?_
  clear hK K
  clear hrD hk3
  go_wp2
  refine bodyPost_ret (v:=.tuple #[poV 0 none 0 0,.int .i64 c']) (by simp [results,Tryz.results63,go_sem,z0,z1]) rfl ?_
  rw [HPV.out]
  exact ⟨retQ (R:=[]) HBF.out (RT.empty _ _ (Nat.le_refl _) _) hlt5 _ _,fun h=>by simp at hcb;exact absurd h hcb⟩
end
end Go.Proofs.YtgfkglhelfkpoaaGreat
